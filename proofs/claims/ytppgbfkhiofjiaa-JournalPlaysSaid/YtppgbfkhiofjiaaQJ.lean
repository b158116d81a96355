/-
  Of the proof of JournalPlays (put together by wip/tools/mkclaimj.py):
  JournalPlays: the contracts of act, but for a commit, a clone and a spoiled sector.
-/
import Derived.Test.YtppgbfkhiofjiaaQI
namespace Go.Proofs.Ytppgbfkhiofjiaa.X
open Go.RowKit Go.Proofs.YtppgbfkhiofjiaaW.PrintWords Go.Proofs.YtppgbfkhiofjiaaW.PrintLast Go.Proofs.YtppgbfkhiofjiaaW.PrintMore Go.Proofs.Ytppgbfkhiofjiaa.Y
set_option linter.unusedVariables false
set_option linter.unusedSimpArgs false

/-- An act, as it is handed over. -/
structure OpC (lo : Nat) (W : World) (o : OpJ) (Aw : Option Addr) (cw : Nat) (Ak : Option Addr) (ck : Nat) (Ab : Option Addr) (cb : Nat) : Prop where
  w : ∀ W', Fr (fun k => lo ≤ k) W W' → Kd.C k105 W' Aw o.w.length o.w
  k : ∀ W', Fr (fun k => lo ≤ k) W W' → Kd.C Kd.bool W' Ak o.keep.length o.keep
  b : ∀ W', Fr (fun k => lo ≤ k) W W' → Kd.C (Kd.int .u8) W' Ab o.b.length o.b
  cw : o.w.length ≤ cw
  ck : o.keep.length ≤ ck
  cb : o.b.length ≤ cb
  siz : o.b.length ≤ 140737488351232 ∧ o.keep.length ≤ 140737488351232 ∧ o.w.length ≤ 4398046510976 ∧ ∀ s ∈ o.w, s.f1.length ≤ 140737488351232
  wf : (Lit.int .i64 o.n).wf = true
  bb : BytL o.b
  wb : ∀ s ∈ o.w, BytL s.f1
def opV (o : OpJ) (Aw : Option Addr) (cw : Nat) (Ak : Option Addr) (ck : Nat) (Ab : Option Addr) (cb : Nat) : Value :=
  .agg #[.int .i64 o.kind, .slice Aw o.w.length cw, .int .i64 o.n, .slice Ak o.keep.length ck, .slice Ab o.b.length cb]
/-- What an act's end says. -/
def ActEnd (lo x i : Nat) (D : DS) (W : World) (e : Ending) (w' : World) : Prop :=
  e = .returned (.bool true) ∧ (∃ D' o', JP lo x w' D' o' (i + 230) ∧ D'.n = D.n) ∧ Fr (fun k => lo ≤ k) W w'
theorem JP.lo {lo x i : Nat} {W : World} {D : DS} {o : Option Bool} (h : JP lo x W D o i) : lo ≤ W.heap.size := by
  obtain ⟨g, r, B, R, lv, mv, h1, h2, h3, h4⟩ := h
  exact Nat.le_trans h2.lx (Nat.le_of_lt h1.lt)
theorem box5 (W : World) (a b c d e : Value) : (W.alloc (.cells #[a, b, c, d, e] 70)).heap[W.heap.size]? = some (.cells #[a, b, c, d, e] 70 (0, 0)) := heap_alloc_new _ _
theorem box_cells {W : World} {bx : Nat} {a b c d e : Value} (h : W.heap[bx]? = some (.cells #[a, b, c, d, e] 70 (0, 0))) : W.cell? ⟨bx, 0, none⟩ = some a ∧ W.cell? ⟨bx, 1, none⟩ = some b ∧ W.cell? ⟨bx, 2, none⟩ = some c ∧ W.cell? ⟨bx, 3, none⟩ = some d ∧ W.cell? ⟨bx, 4, none⟩ = some e := by
  refine ⟨?_, ?_, ?_, ?_, ?_⟩ <;> rw [cell_of_row W bx _ _ 70 (0, 0) h] <;> rfl
/-- Behind the box: the state, and what is carried on. -/
theorem JP.boxed {lo x i : Nat} {W : World} {D : DS} {o : Option Bool} (h : JP lo x W D o i) (ob : Obj) : ∃ g r B R lv mv, XAt (W.alloc ob) x g r lv mv ∧ JC lo x g r B R (W.alloc ob) D ∧ JL lo g r B R (W.alloc ob) lv mv o ∧ JOk i D ∧ Byt D ∧ ¬ B W.heap.size ∧ ¬ R W.heap.size ∧ x ≠ W.heap.size := by
  have hs := W
  obtain ⟨g, r, B, R, lv, mv, h1, h2, h3, h4, h5⟩ := h
  have f : Fr (fun _ => False) W (W.alloc ob) := (Fr.refl _ W).alloc ob
  exact ⟨g, r, B, R, lv, mv, h1.kept (f.keep _ h1.lt (fun h => h)), h2.quiet f, h3.quiet f, h4, h5, fun h => by have := h2.d.lt _ h; omega, fun h => by have := h2.e.lt _ h; omega, by have := h1.lt; omega⟩
theorem wf64 {n : Int} (h : (Lit.int .i64 n).wf = true) : -9223372036854775808 ≤ n ∧ n ≤ 9223372036854775807 := by
  simp [Lit.wf, IntKind.min, IntKind.max, IntKind.signed, IntKind.bits] at h
  omega
theorem wf8 {n : Int} (h : (Lit.int .u8 n).wf = true) : 0 ≤ n ∧ n < 256 := by
  simp [Lit.wf, IntKind.min, IntKind.max, IntKind.signed, IntKind.bits] at h
  omega
theorem info4q : (Try.prog.info? 4).map (fun i => (i.zero, i.size, i.bytes)) = some (some (.bool false), 1, 1) := by kernel_rfl
/-- The cells of x and of the box, behind what keeps their blocks. -/
theorem xbox {x g r bx : Nat} {W W' : World} {lv mv a b c d e : Value} {P : Nat → Prop} (hx : XAt W x g r lv mv) (hb : W.heap[bx]? = some (.cells #[a, b, c, d, e] 70 (0, 0))) (f : Fr P W W') (n1 : ¬ P x) (n2 : ¬ P bx) : XAt W' x g r lv mv ∧ W'.heap[bx]? = some (.cells #[a, b, c, d, e] 70 (0, 0)) :=
  ⟨hx.kept (f.keep _ hx.lt n1), (f.keep _ (Array.getElem?_eq_some_iff.1 hb).1 n2).trans hb⟩

set_option maxHeartbeats 8000000 in
set_option maxRecDepth 100000 in
theorem act_arm (lo x i : Nat) (W : World) (D : DS) (oo : Option Bool) (o : OpJ) (Aw : Option Addr) (cw : Nat) (Ak : Option Addr) (ck : Nat) (Ab : Option Addr) (cb : Nat) (h : JP lo x W D oo i) (hi : i ≤ 100000) (hN : 0 ≤ D.n ∧ D.n ≤ 4096)
    (ho : OpC lo W o Aw cw Ak ck Ab cb) (he : o.kind = 2) : Calls Try.prog 37 #[.pointer (some ⟨x, 0, none⟩), opV o Aw cw Ak ck Ab cb] W (ActEnd lo x i D W) := by
  have HLO := Aside0.mk h.lo
  have HO := Aside0.mk ho
  unfold opV
  rw [he]
  obtain ⟨l1, hl1⟩ : ∃ n, o.w.length = n := ⟨_, rfl⟩
  obtain ⟨l2, hl2⟩ : ∃ n, o.keep.length = n := ⟨_, rfl⟩
  obtain ⟨l3, hl3⟩ : ∃ n, o.b.length = n := ⟨_, rfl⟩
  obtain ⟨n, hn⟩ : ∃ n, o.n = n := ⟨_, rfl⟩
  have hwf := ho.wf
  have h32 := ho.siz.2.2.1
  have hb32 := ho.siz.1
  have hk32 := ho.siz.2.1
  have hcw := ho.cw
  have hck := ho.ck
  have hcb := ho.cb
  rw [hl1] at h32 hcw
  rw [hl2] at hk32 hck
  rw [hl3] at hb32 hcb
  rw [hl1, hl2, hl3, hn]
  rw [hn] at hwf
  obtain ⟨hn1, hn2⟩ := wf64 hwf
  have HL1 := Aside0.mk hl1
  have HL2 := Aside0.mk hl2
  have HL3 := Aside0.mk hl3
  have HNN := Aside0.mk hn
  have HDN := Aside0.mk hN
  have hbx := box5 W (.int .i64 2) (.slice Aw l1 cw) (.int .i64 n) (.slice Ak l2 ck) (.slice Ab l3 cb)
  obtain ⟨g, r, B, R, lv, mv, hx, hc, hl, hj, hb, nb, nr, nx⟩ := h.boxed (.cells #[.int .i64 2, .slice Aw l1 cw, .int .i64 n, .slice Ak l2 ck, .slice Ab l3 cb] 70)
  have hf1 : Fr (fun k => lo ≤ k) W (W.alloc (.cells #[.int .i64 2, .slice Aw l1 cw, .int .i64 n, .slice Ak l2 ck, .slice Ab l3 cb] 70)) := (Fr.refl _ W).alloc _
  have hbz : lo ≤ W.heap.size := h.lo
  clear h ho hwf hl1 hl2 hl3 hn he hN
  go_enter Try.func37, Try.ntmps37
  go_wp2_with fail
  obtain ⟨W1, hW1⟩ : ∃ W1, W.alloc (.cells #[.int .i64 2, .slice Aw l1 cw, .int .i64 n, .slice Ak l2 ck, .slice Ab l3 cb] 70) = W1 := ⟨_, rfl⟩
  rw [hW1] at hbx hx hc hl hf1 ⊢
  obtain ⟨bx, hbx'⟩ : ∃ b, W.heap.size = b := ⟨_, rfl⟩
  rw [hbx'] at hbx nb nr nx hbz ⊢
  clear hW1 hbx'
  have HBX := Aside0.mk hbx
  have HF1 := Aside0.mk hf1
  have HX := Aside0.mk hx
  have HC := Aside0.mk hc
  have HL := Aside0.mk hl
  have HJ := Aside0.mk hj
  have HB := Aside0.mk hb
  have HNB := Aside0.mk nb
  have HNR := Aside0.mk nr
  have HBZ := Aside0.mk hbz
  have HBL : Aside0 (bx < W1.heap.size) := ⟨(Array.getElem?_eq_some_iff.1 hbx).1⟩
  obtain ⟨k0, k1, k2, k3, k4⟩ := box_cells hbx
  obtain ⟨c0, c1, c2, c3, cf⟩ := hx.cells
  clear hbx hf1 hx hc hl hj hb nb nr hbz
  have AC : Aside0 (∀ W', Fr (fun _ => False) W1 W' → Calls Try.prog 16 #[.pointer (some ⟨g, 0, none⟩), .int .i64 n] W' fun e w' => e = .returned (.tuple #[]) ∧ IsDisk w' B g { D with left := if n < -1 then -1 else n } ∧ Fr B W1 w') := ⟨fun W' f => (arm_calls g B D n W' (HC.out.d.fr f (fun _ _ h => h))).mono fun e w' ⟨h1, h2, h3⟩ => ⟨h1, h2, (f.mono (fun _ h => h.elim)).trans h3 (fun k h => .inl h)⟩⟩
  have RC : Aside0 (∀ W2 W', Fr B W1 W2 → Fr (fun _ => False) W2 W' → Calls Try.prog 52 #[.pointer (some ⟨r, 0, none⟩), .int .i64 n] W' fun e w' => e = .returned (.tuple #[]) ∧ IsRef w' R r { D with left := if n < -1 then -1 else n } ∧ Fr R W2 w') := ⟨fun W2 W' f1 f => (arms_calls r R D n W' ((HC.out.e.fr f1 (fun k hr hb => HC.out.apart k hb hr)).fr f (fun _ _ h => h))).mono fun e w' ⟨h1, h2, h3⟩ => ⟨h1, h2, (f.mono (fun _ h => h.elim)).trans h3 (fun k h => .inl h)⟩⟩
  go_region_held3 (fun W' => W'.cell? ⟨x, 0, none⟩ = some (.pointer (some ⟨g, 0, none⟩)) ∧ W'.cell? ⟨bx, 2, none⟩ = some (.int .i64 n)) (first | exact And.intro c0 k2 | exact S2.out) (first
    | (go_at_call 16; refine (AC.out _ (Fr.refl _ W1).drew).mono ?_; rintro e w2 ⟨rfl, d2, f2⟩; have hxb := xbox HX.out HBX.out f2 HC.out.xb HNB.out; have S2 := Aside0.mk (And.intro hxb.1.cells.1 (box_cells hxb.2).2.2.1); have XB2 := Aside0.mk hxb; have HD2 := Aside0.mk d2; have HF2 := Aside0.mk f2; clear d2 f2 hxb))
  have c2' := XB2.out.1.cells.2.2.1
  have k2' := (box_cells XB2.out.2).2.2.1
  clear c0 c1 c2 c3 cf k0 k1 k2 k3 k4 S2 AC
  go_wp2_with fail
  go_region_held3 (fun W' => W'.cell? ⟨x, 2, none⟩ = some (.pointer (some ⟨r, 0, none⟩)) ∧ W'.cell? ⟨bx, 2, none⟩ = some (.int .i64 n)) (first | exact And.intro c2' k2' | exact S3.out) (first
    | (go_at_call 52; refine (RC.out w2 _ HF2.out (Fr.refl _ w2).drew).mono ?_; rintro e w3 ⟨rfl, d3, f3⟩; have hxb := xbox XB2.out.1 XB2.out.2 f3 HC.out.xr HNR.out; have S3 := Aside0.mk (And.intro hxb.1.cells.2.2.1 (box_cells hxb.2).2.2.1); have XB3 := Aside0.mk hxb; have HR3 := Aside0.mk d3; have HF3 := Aside0.mk f3; clear d3 f3 hxb))
  have hc3 : JC lo x g r B R w3 { D with left := if n < -1 then -1 else n } := HC.out.step HX.out.lt (Nat.le_trans HLO.out HF1.out.size) HD2.out (fun _ h => .inl h) HF2.out HR3.out (fun _ h => .inl h) HF3.out
  have hl3 := HL.out.step (fun _ h => .inl h) HF2.out (fun _ h => .inl h) HF3.out
  have HE : Aside0 (ActEnd lo x i D W (.returned (.bool true)) w3) := ⟨rfl, ⟨_, oo, ⟨g, r, B, R, lv, mv, XB3.out.1, hc3, hl3, (HJ.out.arm n hn2).mono (by omega), HB.out.of rfl rfl⟩, rfl⟩, (HF1.out.trans HF2.out (fun k h => .inl (HC.out.lb k h))).trans HF3.out (fun k h => .inl (HC.out.lr k h))⟩
  clear hc3 hl3 S3 c2' k2' RC
  go_wp2_with fail
  go_ret
  exact HE.out

set_option maxHeartbeats 8000000 in
set_option maxRecDepth 100000 in
theorem act_nil (lo x i : Nat) (W : World) (D : DS) (oo : Option Bool) (o : OpJ) (Aw : Option Addr) (cw : Nat) (Ak : Option Addr) (ck : Nat) (Ab : Option Addr) (cb : Nat) (h : JP lo x W D oo i) (hi : i ≤ 100000) (hN : 0 ≤ D.n ∧ D.n ≤ 4096)
    (ho : OpC lo W o Aw cw Ak ck Ab cb) (he : o.kind ≠ 2 ∧ o.kind ≠ 3 ∧ o.kind ≠ 4) (hoo : oo = none) : Calls Try.prog 37 #[.pointer (some ⟨x, 0, none⟩), opV o Aw cw Ak ck Ab cb] W (ActEnd lo x i D W) := by
  have HLO := Aside0.mk h.lo
  have HO := Aside0.mk ho
  unfold opV
  obtain ⟨kd, hkd⟩ : ∃ k, o.kind = k := ⟨_, rfl⟩
  rw [hkd] at he ⊢
  obtain ⟨l1, hl1⟩ : ∃ n, o.w.length = n := ⟨_, rfl⟩
  obtain ⟨l2, hl2⟩ : ∃ n, o.keep.length = n := ⟨_, rfl⟩
  obtain ⟨l3, hl3⟩ : ∃ n, o.b.length = n := ⟨_, rfl⟩
  obtain ⟨n, hn⟩ : ∃ n, o.n = n := ⟨_, rfl⟩
  have hwf := ho.wf
  have h32 := ho.siz.2.2.1
  have hb32 := ho.siz.1
  have hk32 := ho.siz.2.1
  have hcw := ho.cw
  have hck := ho.ck
  have hcb := ho.cb
  rw [hl1] at h32 hcw
  rw [hl2] at hk32 hck
  rw [hl3] at hb32 hcb
  rw [hl1, hl2, hl3, hn]
  rw [hn] at hwf
  obtain ⟨hn1, hn2⟩ := wf64 hwf
  have HL1 := Aside0.mk hl1
  have HL2 := Aside0.mk hl2
  have HL3 := Aside0.mk hl3
  have HNN := Aside0.mk hn
  have HDN := Aside0.mk hN
  have hbx := box5 W (.int .i64 kd) (.slice Aw l1 cw) (.int .i64 n) (.slice Ak l2 ck) (.slice Ab l3 cb)
  obtain ⟨g, r, B, R, lv, mv, hx, hc, hl, hj, hb, nb, nr, nx⟩ := h.boxed (.cells #[.int .i64 kd, .slice Aw l1 cw, .int .i64 n, .slice Ak l2 ck, .slice Ab l3 cb] 70)
  have hf1 : Fr (fun k => lo ≤ k) W (W.alloc (.cells #[.int .i64 kd, .slice Aw l1 cw, .int .i64 n, .slice Ak l2 ck, .slice Ab l3 cb] 70)) := (Fr.refl _ W).alloc _
  have hbz : lo ≤ W.heap.size := h.lo
  clear h ho hwf hl1 hl2 hl3 hn hkd hN
  go_enter Try.func37, Try.ntmps37
  have e2 : (kd == 2) = false := by simpa using he.1
  have e3 : (kd == 3) = false := by simpa using he.2.1
  have e4 : (kd == 4) = false := by simpa using he.2.2
  have c3w := hx.cells.2.2.2.1
  obtain ⟨el, em⟩ : lv = .pointer none ∧ mv = .pointer none := by rw [hoo] at hl; exact hl
  rw [em] at c3w
  go_wp2_with fail
  obtain ⟨W1, hW1⟩ : ∃ W1, W.alloc (.cells #[.int .i64 kd, .slice Aw l1 cw, .int .i64 n, .slice Ak l2 ck, .slice Ab l3 cb] 70) = W1 := ⟨_, rfl⟩
  rw [hW1] at hbx hx hc hl hf1 ⊢
  obtain ⟨bx, hbx'⟩ : ∃ b, W.heap.size = b := ⟨_, rfl⟩
  rw [hbx'] at hbx nb nr nx hbz ⊢
  clear hW1 hbx'
  have HBX := Aside0.mk hbx
  have HF1 := Aside0.mk hf1
  have HX := Aside0.mk hx
  have HC := Aside0.mk hc
  have HL := Aside0.mk hl
  have HJ := Aside0.mk hj
  have HB := Aside0.mk hb
  have HNB := Aside0.mk nb
  have HNR := Aside0.mk nr
  have HBZ := Aside0.mk hbz
  have HBL : Aside0 (bx < W1.heap.size) := ⟨(Array.getElem?_eq_some_iff.1 hbx).1⟩
  obtain ⟨k0, k1, k2, k3, k4⟩ := box_cells hbx
  obtain ⟨c0, c1, c2, c3, cf⟩ := hx.cells
  clear hbx hf1 hx hc hl hj hb nb nr hbz
  go_ret
  exact ⟨rfl, ⟨D, oo, ⟨g, r, B, R, lv, mv, HX.out, HC.out, HL.out, HJ.out.mono (by omega), HB.out⟩, rfl⟩, HF1.out⟩

set_option maxHeartbeats 8000000 in
set_option maxRecDepth 100000 in
theorem act_open (lo x i : Nat) (W : World) (D : DS) (oo : Option Bool) (o : OpJ) (Aw : Option Addr) (cw : Nat) (Ak : Option Addr) (ck : Nat) (Ab : Option Addr) (cb : Nat) (h : JP lo x W D oo i) (hi : i ≤ 100000) (hN : 0 ≤ D.n ∧ D.n ≤ 4096)
    (ho : OpC lo W o Aw cw Ak ck Ab cb) (he : o.kind = 3) : Calls Try.prog 37 #[.pointer (some ⟨x, 0, none⟩), opV o Aw cw Ak ck Ab cb] W (ActEnd lo x i D W) := by
  have HLO := Aside0.mk h.lo
  have HO := Aside0.mk ho
  unfold opV
  rw [he]
  obtain ⟨l1, hl1⟩ : ∃ n, o.w.length = n := ⟨_, rfl⟩
  obtain ⟨l2, hl2⟩ : ∃ n, o.keep.length = n := ⟨_, rfl⟩
  obtain ⟨l3, hl3⟩ : ∃ n, o.b.length = n := ⟨_, rfl⟩
  obtain ⟨n, hn⟩ : ∃ n, o.n = n := ⟨_, rfl⟩
  have hwf := ho.wf
  have h32 := ho.siz.2.2.1
  have hb32 := ho.siz.1
  have hk32 := ho.siz.2.1
  have hcw := ho.cw
  have hck := ho.ck
  have hcb := ho.cb
  rw [hl1] at h32 hcw
  rw [hl2] at hk32 hck
  rw [hl3] at hb32 hcb
  rw [hl1, hl2, hl3, hn]
  rw [hn] at hwf
  obtain ⟨hn1, hn2⟩ := wf64 hwf
  have HL1 := Aside0.mk hl1
  have HL2 := Aside0.mk hl2
  have HL3 := Aside0.mk hl3
  have HNN := Aside0.mk hn
  have HDN := Aside0.mk hN
  have hbx := box5 W (.int .i64 3) (.slice Aw l1 cw) (.int .i64 n) (.slice Ak l2 ck) (.slice Ab l3 cb)
  obtain ⟨g, r, B, R, lv, mv, hx, hc, hl, hj, hb, nb, nr, nx⟩ := h.boxed (.cells #[.int .i64 3, .slice Aw l1 cw, .int .i64 n, .slice Ak l2 ck, .slice Ab l3 cb] 70)
  have hf1 : Fr (fun k => lo ≤ k) W (W.alloc (.cells #[.int .i64 3, .slice Aw l1 cw, .int .i64 n, .slice Ak l2 ck, .slice Ab l3 cb] 70)) := (Fr.refl _ W).alloc _
  have hbz : lo ≤ W.heap.size := h.lo
  clear h ho hwf hl1 hl2 hl3 hn he hN
  go_enter Try.func37, Try.ntmps37
  go_wp2_with fail
  obtain ⟨W1, hW1⟩ : ∃ W1, W.alloc (.cells #[.int .i64 3, .slice Aw l1 cw, .int .i64 n, .slice Ak l2 ck, .slice Ab l3 cb] 70) = W1 := ⟨_, rfl⟩
  rw [hW1] at hbx hx hc hl hf1 ⊢
  obtain ⟨bx, hbx'⟩ : ∃ b, W.heap.size = b := ⟨_, rfl⟩
  rw [hbx'] at hbx nb nr nx hbz ⊢
  clear hW1 hbx'
  have HBX := Aside0.mk hbx
  have HF1 := Aside0.mk hf1
  have HX := Aside0.mk hx
  have HC := Aside0.mk hc
  have HL := Aside0.mk hl
  have HJ := Aside0.mk hj
  have HB := Aside0.mk hb
  have HNB := Aside0.mk nb
  have HNR := Aside0.mk nr
  have HBZ := Aside0.mk hbz
  have HBL : Aside0 (bx < W1.heap.size) := ⟨(Array.getElem?_eq_some_iff.1 hbx).1⟩
  obtain ⟨k0, k1, k2, k3, k4⟩ := box_cells hbx
  obtain ⟨c0, c1, c2, c3, cf⟩ := hx.cells
  clear hbx hf1 hx hc hl hj hb nb nr hbz
  have HKP := Aside0.mk (HO.out.k W1 HF1.out)
  have HKD := Aside0.mk (HO.out.k)
  have HW1 : Aside0 (∀ k, B k → k < W1.heap.size) := ⟨HC.out.d.lt⟩
  have HO0 : Aside0 (Kd.R Kd.bool 4 (W1.alloc (.cells #[] 4)).drew W1.heap.size (fun b => W1.heap.size ≤ b) (.slice (some ⟨W1.heap.size, 0, none⟩) 0 0) ([] : List Bool)) := ⟨Kd.R_of_own (enc := Value.bool) (h1 := fun _ => rfl) (w := (W1.alloc (.cells #[] 4)).drew) ⟨rfl, .inr ⟨W1.heap.size, 0, #[], rfl, Nat.le_refl _, heap_alloc_new W1 (.cells #[] 4), Nat.le_refl _, by decide, rfl, rfl⟩⟩ (fun b e => by cases e; exact Nat.le_refl _)⟩
  have HB0 : Aside0 (Below W1.heap.size W1 (W1.alloc (.cells #[] 4)).drew) := ⟨below_drew ((Below.refl _ _).alloc (Nat.le_refl _) _)⟩
  have S0 := Aside0.mk (And.intro c0 k3)
  have SB : Aside0 (∀ W', Below W1.heap.size W1 W' → W'.cell? ⟨x, 0, none⟩ = some (.pointer (some ⟨g, 0, none⟩)) ∧ W'.cell? ⟨bx, 3, none⟩ = some (.slice Ak l2 ck)) := ⟨fun W' hb => ⟨cell_later hb S0.out.1, cell_later hb S0.out.2⟩⟩
  clear c0 c1 c2 c3 cf k0 k1 k2 k3 k4
  refine wp_region_held_drew (S := fun W' => W'.cell? ⟨x, 0, none⟩ = some (.pointer (some ⟨g, 0, none⟩)) ∧ W'.cell? ⟨bx, 3, none⟩ = some (.slice Ak l2 ck)) (by kernel_rfl) S0.out (fun hHeld => ?_)
  refine wpAnyH_take (i := 0) (oi := ⟨some 35, _, _, _, _, _⟩) (v := ?_) rfl (by kernel_rfl) (by kernel_rfl) (by kernel_rfl) (fun _ _ _ h => h) (Or.inl ⟨by rfl, ?hyQ1⟩) (by assumption) ?rsQ1
  case hyQ1 => (intro w' hSw; (try dsimp only at hSw); (first | (go_simp; done) | (go_simp; with_reducible rfl)))
  try simp only [Act.put, List.setIfInBounds_toArray, List.set_cons_zero, List.set_cons_succ]
  refine wpAnyH_take (i := 1) (oi := ⟨some 36, _, _, _, _, _⟩) (v := ?_) rfl (by kernel_rfl) (by kernel_rfl) (by kernel_rfl) (fun _ _ _ h => h) (Or.inl ⟨by rfl, ?hyQ2⟩) (by assumption) ?rsQ2
  case hyQ2 => (intro w' hSw; (try dsimp only at hSw); (first | (go_simp; done) | (go_simp; with_reducible rfl)))
  try simp only [Act.put, List.setIfInBounds_toArray, List.set_cons_zero, List.set_cons_succ]
  refine wpAnyH_take (i := 2) (oi := ⟨some 37, _, _, _, _, _⟩) (v := ?_) rfl (by kernel_rfl) (by kernel_rfl) (by kernel_rfl) (fun _ _ _ h => h) (Or.inl ⟨by rfl, ?hyQ3⟩) (by assumption) ?rsQ3
  case hyQ3 => (intro w' hSw; (try dsimp only at hSw); (first | (go_simp; done) | (go_simp; with_reducible rfl)))
  try simp only [Act.put, List.setIfInBounds_toArray, List.set_cons_zero, List.set_cons_succ]
  refine wpAnyH_take (i := 3) (oi := ⟨some 38, _, _, _, _, _⟩) (v := ?_) rfl (by kernel_rfl) (by kernel_rfl) (by kernel_rfl) (fun _ _ _ h => h) (Or.inl ⟨by rfl, ?hyQ4⟩) (by assumption) ?rsQ4
  case hyQ4 => (intro w' hSw; (try dsimp only at hSw); (first | (go_simp; done) | (go_simp; with_reducible rfl)))
  try simp only [Act.put, List.setIfInBounds_toArray, List.set_cons_zero, List.set_cons_succ]
  refine wpAnyH_take (i := 5) (oi := ⟨some 40, _, _, _, _, _⟩) (v := ?_) rfl (by kernel_rfl) (by kernel_rfl) (by kernel_rfl) (fun _ _ _ h => h) (Or.inl ⟨by rfl, ?hyQ5⟩) (by assumption) ?rsQ5
  case hyQ5 => (intro w' hSw; (try dsimp only at hSw); (first | (go_simp; done) | (go_simp; with_reducible rfl)))
  try simp only [Act.put, List.setIfInBounds_toArray, List.set_cons_zero, List.set_cons_succ]
  refine wpAnyH_take (i := 6) (oi := ⟨some 41, _, _, _, _, _⟩) (v := ?_) rfl (by kernel_rfl) (by kernel_rfl) (by kernel_rfl) (fun _ _ _ h => h) (Or.inl ⟨by rfl, ?hyQ6⟩) (by assumption) ?rsQ6
  case hyQ6 => (intro w' hSw; (try dsimp only at hSw); (first | (go_simp; done) | (go_simp; with_reducible rfl)))
  try simp only [Act.put, List.setIfInBounds_toArray, List.set_cons_zero, List.set_cons_succ]
  refine wpAnyH_ready (rs := [4]) (by kernel_rfl) (by simp) ?_
  refine AllReadyH.cons rfl (fun K hK => ?_) AllReadyH.nil
  go_simp
  clear hHeld
  refine hK.out _ _ (SB.out _ HB0.out) (fun hHeld => ?_)
  clear hK K
  try simp only [Act.put, List.setIfInBounds_toArray, List.set_cons_zero, List.set_cons_succ]
  refine wpAnyH_ready (rs := [7]) (by kernel_rfl) (by simp) ?_
  refine AllReadyH.cons rfl (fun K hK => ?_) AllReadyH.nil
  rw [HL2.out] at HKP
  refine Kd.R_append_rows_step Kd.bool (w0 := W1) W1.heap.size (by rfl) (.tmp 39) (.tmp 41) 27 4 (.bool false) 1 rfl Try.underlying27 info4q rfl (by decide) (by omega) (.slice (some ⟨W1.heap.size, 0, none⟩) 0 0) [] o.keep Ak l2 ck (fun b => W1.heap.size ≤ b) (fun _ => False) (by rfl) (by rfl) HO0.out (Kd.C_below HKP.out HB0.out) (fun _ _ h => h) (fun _ h => h.elim) (fun b h => Nat.le_trans HB0.out.size h) HB0.out HB0.out.size (by simp only [List.length_nil]; omega) ?_
  intro v1 w2 q1 q2 q3 q4
  obtain ⟨A2, c2, rfl, hc2, C2⟩ := Kd.R_reads q1
  rw [List.nil_append, HL2.out] at hc2
  have hA2 : ∀ ad, A2 = some ad → ¬ B ad.block := fun ad e hB => by
    subst e
    have := q1.1 ad.block rfl
    have := HW1.out _ hB
    omega
  rw [List.nil_append] at C2
  have HC2 := Aside0.mk C2
  have HA2 := Aside0.mk hA2
  have HB2 := Aside0.mk q2
  have S2 := Aside0.mk (SB.out w2 q2)
  have hlen9 : (([] : List Bool) ++ o.keep).length = l2 := by rw [List.nil_append]; exact HL2.out
  rw [hlen9]
  clear q1 q2 q3 q4 C2 hA2 hlen9 hHeld
  refine hK.out _ _ S2.out (fun hHeld => ?_)
  clear hK K
  try simp only [Act.put, List.setIfInBounds_toArray, List.set_cons_zero, List.set_cons_succ]
  refine wpAnyH_ready (rs := [8]) (by kernel_rfl) (by simp) ?_
  refine AllReadyH.cons rfl (fun K hK => ?_) AllReadyH.nil
  go_simp
  have MC := mend_calls g B D A2 c2 o.keep w2 (HC.out.d.fr (Fr.of_below HB2.out (fun _ => False)) (fun _ _ h => h)) (by have := HJ.out.u; omega) (by have := HJ.out.u; omega) HC2.out (fun ad e _ => HA2.out ad e)
  rw [HL2.out] at MC
  refine MC.mono ?_
  rintro e w3 ⟨rfl, d3, f3⟩
  have f3' : Fr B W1 w3 := (Fr.of_below HB2.out B).trans f3 (fun k h => .inl h)
  have hxb := xbox HX.out HBX.out f3' HC.out.xb HNB.out
  have S3 := Aside0.mk (And.intro hxb.1.cells.1 (box_cells hxb.2).2.2.2.1)
  have XB3 := Aside0.mk hxb
  have HD3 := Aside0.mk d3
  have HF3 := Aside0.mk f3'
  clear d3 f3 f3' hxb MC hHeld
  go_simp
  refine hK.out _ _ S3.out (fun hHeld => ?_)
  clear hK K
  try simp only [Act.put, List.setIfInBounds_toArray, List.set_cons_zero, List.set_cons_succ]
  refine wpAnyH_done (by kernel_rfl) ?_ _
  try dsimp only
  have c2' := XB3.out.1.cells.2.2.1
  have k3' := (box_cells XB3.out.2).2.2.2.1
  have RC : Aside0 (∀ W', Fr (fun _ => False) w3 W' → Calls Try.prog 24 #[.pointer (some ⟨r, 0, none⟩), .slice Ak l2 ck] W' fun e w' => e = .returned (.tuple #[]) ∧ IsRef w' R r (mendD o.keep D) ∧ Fr R w3 w') := ⟨fun W' f => by
    have hf := (HF1.out.trans HF3.out (fun k h => .inl (HC.out.lb k h))).trans f (fun _ h => h.elim)
    have := rmend_calls r R D Ak ck o.keep W' ((HC.out.e.fr HF3.out (fun k hr hb => HC.out.apart k hb hr)).fr f (fun _ _ h => h)) (by have := HJ.out.u; omega) (HKD.out W' hf) (fun ad e h0 hR => stab_C (d := Kd.bool) (by decide) HKD.out ad e h0 (HC.out.lr _ hR))
    rw [HL2.out] at this
    exact this.mono fun e w' ⟨h1, h2, h3⟩ => ⟨h1, h2, (f.mono (fun _ h => h.elim)).trans h3 (fun k h => .inl h)⟩⟩
  clear S0 S3 SB HO0 HB0 HKP
  go_wp2_with fail
  go_region_held3 (fun W' => W'.cell? ⟨x, 2, none⟩ = some (.pointer (some ⟨r, 0, none⟩)) ∧ W'.cell? ⟨bx, 3, none⟩ = some (.slice Ak l2 ck)) (first | exact And.intro c2' k3' | exact S4.out) (first
    | (go_at_call 24; refine (RC.out _ (Fr.refl _ w3).drew).mono ?_; rintro e w4 ⟨rfl, d4, f4⟩; have hxb := xbox XB3.out.1 XB3.out.2 f4 HC.out.xr HNR.out; have S4 := Aside0.mk (And.intro hxb.1.cells.2.2.1 (box_cells hxb.2).2.2.2.1); have XB4 := Aside0.mk hxb; have HR4 := Aside0.mk d4; have HF4 := Aside0.mk f4; clear d4 f4 hxb))
  have hc4 : JC lo x g r B R w4 (mendD o.keep D) := HC.out.step HX.out.lt (Nat.le_trans HLO.out HF1.out.size) HD3.out (fun _ h => .inl h) HF3.out HR4.out (fun _ h => .inl h) HF4.out
  have hl4 := HL.out.step (fun _ h => .inl h) HF3.out (fun _ h => .inl h) HF4.out
  have hjp : JP lo x w4 (mendD o.keep D) oo i := ⟨g, r, B, R, lv, mv, XB4.out.1, hc4, hl4, HJ.out.mend o.keep, HB.out.mend o.keep⟩
  have OP := Aside0.mk (opens_calls lo x i w4 (mendD o.keep D) oo hjp (by omega) (by have := HDN.out; exact ⟨by show 0 ≤ D.n; omega, by show D.n ≤ 4096; omega⟩))
  have HFW : Aside0 (Fr (fun k => lo ≤ k) W w4) := ⟨(HF1.out.trans HF3.out (fun k h => .inl (HC.out.lb k h))).trans HF4.out (fun k h => .inl (HC.out.lr k h))⟩
  clear hc4 hl4 hjp S4 c2' k3' RC
  go_wp2_with fail
  refine OP.out.mono ?_
  rintro e w5 ⟨rfl, jp5, f5⟩
  have HE : Aside0 (ActEnd lo x i D W (.returned (.bool true)) w5) := ⟨rfl, ⟨_, _, jp5.mono (by omega), n_open _⟩, HFW.out.trans f5 (fun k h => .inl h)⟩
  clear jp5 f5 OP
  go_wp2_with fail
  go_ret
  exact HE.out
end Go.Proofs.Ytppgbfkhiofjiaa.X
