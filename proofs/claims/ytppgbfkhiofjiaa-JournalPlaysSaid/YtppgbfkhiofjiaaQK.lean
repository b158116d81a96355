/-
  Of the proof of JournalPlays (put together by wip/tools/mkclaimj.py):
  JournalPlays: the contract of act, a reading. Printed by wip/tools/mkact.py.
-/
import Derived.Test.YtppgbfkhiofjiaaQJ
namespace Go.Proofs.Ytppgbfkhiofjiaa.X
open Go.RowKit Go.Proofs.YtppgbfkhiofjiaaW.PrintWords Go.Proofs.YtppgbfkhiofjiaaW.PrintLast Go.Proofs.YtppgbfkhiofjiaaW.PrintMore Go.Proofs.Ytppgbfkhiofjiaa.Y
set_option linter.unusedVariables false
set_option linter.unusedSimpArgs false

/-! ### What a journal reads -/
def rdQ (D : DS) (n : Int) : Int := if hasB D n = false then 2 else if D.down = true then 230 else 0
def rdS (D : DS) (n : Int) : ByteArray := if hasB D n = false then strOfNums [] else if D.down = true then strOfNums [] else strOfNums (rd64 D (69 + n))
theorem conv_nil (W : World) : (convert 22 9 (.slice none 0 0)).run Try.prog W = .ok (.string (strOfNums [])) W := Kd.C_string Try.underlying22 Try.underlying5 Try.underlying9 (xs := []) (Kd.C_of_reads (d := (0 : Int)) (h1 := fun _ => rfl) ⟨rfl, by omega, fun h => absurd h (Nat.lt_irrefl 0)⟩)
theorem lread_any (lb g : Nat) (dn : Bool) (B : Nat → Prop) (D : DS) (n : Int) (w : World) (h : IsDisk w B g D) (hlog : IsLog w lb g dn) (hn : 0 ≤ D.n ∧ D.n ≤ 4096) (hc : D.c.length ≤ 1000000) :
    Calls Try.prog 56 #[.pointer (some ⟨lb, 0, none⟩), .int .i64 n] w fun e w' => ∃ v, e = .returned (.tuple #[v, .int .i64 (rdQ D n)]) ∧ Fr (fun _ => False) w w' ∧ ∀ W2, Fr (fun _ => False) w' W2 → (convert 22 9 v).run Try.prog W2 = .ok (.string (rdS D n)) W2 := by
  have hN : 0 ≤ D.n ∧ D.n ≤ 4096 := ⟨by omega, hn.2⟩
  by_cases hh : hasB D n = false
  · refine (lread_no lb g dn B D n w h hlog hN hh).mono ?_
    rintro e w' ⟨rfl, rfl⟩
    exact ⟨_, by rw [rdQ, if_pos hh], Fr.refl _ _, fun W2 _ => by rw [rdS, if_pos hh]; exact conv_nil W2⟩
  · have hh' : hasB D n = true := by simpa using hh
    by_cases hd : D.down = true
    · refine (lread_down lb g dn B D n w h hlog hN hh' hd).mono ?_
      rintro e w' ⟨rfl, hdr⟩
      exact ⟨_, by rw [rdQ, if_neg hh, if_pos hd], Fr.of_drawn hdr _, fun W2 _ => by rw [rdS, if_neg hh, if_pos hd]; exact conv_nil W2⟩
    · refine (lread_yes lb g dn B D n w h hlog hN hh' (by simpa using hd) hc).mono ?_
      rintro e w' ⟨gb, rfl, _, har, hf⟩
      refine ⟨_, by rw [rdQ, if_neg hh, if_neg hd], hf, fun W2 f => ?_⟩
      rw [rdS, if_neg hh, if_neg hd]
      have har2 : IsArr W2 gb (rd64 D (69 + n)) := har.kept (f.keep _ har.lt (fun h => h))
      exact Kd.C_string Try.underlying22 Try.underlying5 Try.underlying9 (Kd.C_of_reads (d := (0 : Int)) (h1 := fun _ => rfl) (IsArr.reads har2 (h.rd64_length (69 + n))))
theorem rlread_any (mb r : Nat) (dn : Bool) (R : Nat → Prop) (D : DS) (n : Int) (w : World) (h : IsRef w R r D) (hlog : IsRLog w mb r dn) (hc : D.c.length ≤ 1000000) :
    Calls Try.prog 70 #[.pointer (some ⟨mb, 0, none⟩), .int .i64 n] w fun e w' => ∃ v, e = .returned (.tuple #[v, .int .i64 (rdQ D n)]) ∧ Fr (fun _ => False) w w' ∧ ∀ W2, Fr (fun _ => False) w' W2 → (convert 22 9 v).run Try.prog W2 = .ok (.string (rdS D n)) W2 := by
  by_cases hh : hasB D n = false
  · refine (rlread_no mb r dn R D n w h hlog hh).mono ?_
    rintro e w' ⟨rfl, hf⟩
    exact ⟨_, by rw [rdQ, if_pos hh], hf, fun W2 _ => by rw [rdS, if_pos hh]; exact conv_nil W2⟩
  · have hh' : hasB D n = true := by simpa using hh
    by_cases hd : D.down = true
    · refine (rlread_down mb r dn R D n w h hlog hh' hd).mono ?_
      rintro e w' ⟨rfl, hdr⟩
      exact ⟨_, by rw [rdQ, if_neg hh, if_pos hd], hdr, fun W2 _ => by rw [rdS, if_neg hh, if_pos hd]; exact conv_nil W2⟩
    · refine (rlread_yes mb r dn R D n w h hlog hh' (by simpa using hd) hc).mono ?_
      rintro e w' ⟨gb, cap, rfl, hown, hf⟩
      refine ⟨_, by rw [rdQ, if_neg hh, if_neg hd], hf, fun W2 f => ?_⟩
      rw [rdS, if_neg hh, if_neg hd]
      have hb := of_decide_eq_true hh'
      have own2 := ownsRow_kept (w' := W2) hown (fun b e => f.keep b (own_lt hown b e) (fun h => h))
      exact Kd.C_string Try.underlying22 Try.underlying5 Try.underlying9 (own_reads64 own2 (h.rd64_length (by have := hb.1; omega) (by have := hb.2; omega))).2

set_option maxHeartbeats 8000000 in
set_option maxRecDepth 100000 in
theorem act_read (lo x i : Nat) (W : World) (D : DS) (oo : Option Bool) (o : OpJ) (Aw : Option Addr) (cw : Nat) (Ak : Option Addr) (ck : Nat) (Ab : Option Addr) (cb : Nat) (h : JP lo x W D oo i) (hi : i ≤ 100000) (hN : 0 ≤ D.n ∧ D.n ≤ 4096)
    (ho : OpC lo W o Aw cw Ak ck Ab cb) (he : o.kind ≠ 2 ∧ o.kind ≠ 3 ∧ o.kind ≠ 4) (he2 : o.kind ≠ 0 ∧ o.kind ≠ 5) (dn : Bool) (hoo : oo = some dn) : Calls Try.prog 37 #[.pointer (some ⟨x, 0, none⟩), opV o Aw cw Ak ck Ab cb] W (ActEnd lo x i D W) := by
  have HLO := Aside0.mk h.lo
  have HO := Aside0.mk ho
  unfold opV
  obtain ⟨kd, hkd⟩ : ∃ k, o.kind = k := ⟨_, rfl⟩
  rw [hkd] at he he2 ⊢
  obtain ⟨l1, hl1⟩ : ∃ n, o.w.length = n := ⟨_, rfl⟩
  obtain ⟨l2, hl2⟩ : ∃ n, o.keep.length = n := ⟨_, rfl⟩
  obtain ⟨l3, hl3⟩ : ∃ n, o.b.length = n := ⟨_, rfl⟩
  obtain ⟨n, hn⟩ : ∃ n, o.n = n := ⟨_, rfl⟩
  have hwf := ho.wf
  have h32 := ho.siz.2.2.1
  have hb32 := ho.siz.1
  have hk32 := ho.siz.2.1
  have hcw := ho.cw
  have hck := ho.ck
  have hcb := ho.cb
  rw [hl1] at h32 hcw
  rw [hl2] at hk32 hck
  rw [hl3] at hb32 hcb
  rw [hl1, hl2, hl3, hn]
  rw [hn] at hwf
  obtain ⟨hn1, hn2⟩ := wf64 hwf
  have HL1 := Aside0.mk hl1
  have HL2 := Aside0.mk hl2
  have HL3 := Aside0.mk hl3
  have HNN := Aside0.mk hn
  have HDN := Aside0.mk hN
  have hbx := box5 W (.int .i64 kd) (.slice Aw l1 cw) (.int .i64 n) (.slice Ak l2 ck) (.slice Ab l3 cb)
  obtain ⟨g, r, B, R, lv, mv, hx, hc, hl, hj, hb, nb, nr, nx⟩ := h.boxed (.cells #[.int .i64 kd, .slice Aw l1 cw, .int .i64 n, .slice Ak l2 ck, .slice Ab l3 cb] 70)
  have hf1 : Fr (fun k => lo ≤ k) W (W.alloc (.cells #[.int .i64 kd, .slice Aw l1 cw, .int .i64 n, .slice Ak l2 ck, .slice Ab l3 cb] 70)) := (Fr.refl _ W).alloc _
  have hbz : lo ≤ W.heap.size := h.lo
  clear h ho hwf hl1 hl2 hl3 hn hkd hN
  go_enter Try.func37, Try.ntmps37
  have e2 : (kd == 2) = false := by simpa using he.1
  have e3 : (kd == 3) = false := by simpa using he.2.1
  have e4 : (kd == 4) = false := by simpa using he.2.2
  have c3w := hx.cells.2.2.2.1
  obtain ⟨lb, mb, rfl, rfl, hlg, hmg, ll1, ll2, nl1, nl2, nl3, nl4⟩ : ∃ lb mb, lv = .pointer (some ⟨lb, 0, none⟩) ∧ mv = .pointer (some ⟨mb, 0, none⟩) ∧ IsLog (W.alloc (.cells #[.int .i64 kd, .slice Aw l1 cw, .int .i64 n, .slice Ak l2 ck, .slice Ab l3 cb] 70)) lb g dn ∧ IsRLog (W.alloc (.cells #[.int .i64 kd, .slice Aw l1 cw, .int .i64 n, .slice Ak l2 ck, .slice Ab l3 cb] 70)) mb r dn ∧ lo ≤ lb ∧ lo ≤ mb ∧ ¬ B lb ∧ ¬ R lb ∧ ¬ B mb ∧ ¬ R mb := by rw [hoo] at hl; exact hl
  clear hlg hmg ll1 ll2 nl1 nl2 nl3 nl4
  have e0 : (kd == 0) = false := by simpa using he2.1
  have e5 : (kd == 5) = false := by simpa using he2.2
  go_wp2_with fail
  obtain ⟨W1, hW1⟩ : ∃ W1, W.alloc (.cells #[.int .i64 kd, .slice Aw l1 cw, .int .i64 n, .slice Ak l2 ck, .slice Ab l3 cb] 70) = W1 := ⟨_, rfl⟩
  rw [hW1] at hbx hx hc hl hf1 ⊢
  obtain ⟨bx, hbx'⟩ : ∃ b, W.heap.size = b := ⟨_, rfl⟩
  rw [hbx'] at hbx nb nr nx hbz ⊢
  clear hW1 hbx'
  have HBX := Aside0.mk hbx
  have HF1 := Aside0.mk hf1
  have HX := Aside0.mk hx
  have HC := Aside0.mk hc
  have HL := Aside0.mk hl
  have HJ := Aside0.mk hj
  have HB := Aside0.mk hb
  have HNB := Aside0.mk nb
  have HNR := Aside0.mk nr
  have HBZ := Aside0.mk hbz
  have HBL : Aside0 (bx < W1.heap.size) := ⟨(Array.getElem?_eq_some_iff.1 hbx).1⟩
  obtain ⟨k0, k1, k2, k3, k4⟩ := box_cells hbx
  obtain ⟨c0, c1, c2, c3, cf⟩ := hx.cells
  clear hbx hf1 hx hc hl hj hb nb nr hbz
  have HLX : Aside0 (JL lo g r B R W1 (.pointer (some ⟨lb, 0, none⟩)) (.pointer (some ⟨mb, 0, none⟩)) (some dn)) := ⟨by have := HL.out; rwa [hoo] at this⟩
  obtain ⟨q, hq⟩ : ∃ q, rdQ D n = q := ⟨_, rfl⟩
  obtain ⟨S, hS⟩ : ∃ S, rdS D n = S := ⟨_, rfl⟩
  have LC : Aside0 (∀ W', Fr (fun _ => False) W1 W' → Calls Try.prog 56 #[.pointer (some ⟨lb, 0, none⟩), .int .i64 n] W' fun e w' => ∃ v, e = .returned (.tuple #[v, .int .i64 q]) ∧ Fr (fun _ => False) W1 w' ∧ ∀ W2, Fr (fun _ => False) w' W2 → (convert 22 9 v).run Try.prog W2 = .ok (.string S) W2) := ⟨fun W' f => by
    obtain ⟨lb', mb', e1, e2, hlg, hmg, _⟩ := HLX.out
    injection e1 with e1
    injection e1 with e1
    injection e1 with e1
    subst e1
    have := lread_any lb g dn B D n W' (HC.out.d.fr f (fun _ _ h => h)) (hlg.kept (f.keep _ hlg.lt (fun h => h))) HDN.out (by have := HJ.out.u; omega)
    rw [hq, hS] at this
    exact this.mono fun e w' ⟨v, h1, h2, h3⟩ => ⟨v, h1, f.trans h2 (fun _ h => h.elim), h3⟩⟩
  have RC : Aside0 (∀ W', Fr (fun _ => False) W1 W' → Calls Try.prog 70 #[.pointer (some ⟨mb, 0, none⟩), .int .i64 n] W' fun e w' => ∃ v, e = .returned (.tuple #[v, .int .i64 q]) ∧ Fr (fun _ => False) W' w' ∧ ∀ W2, Fr (fun _ => False) w' W2 → (convert 22 9 v).run Try.prog W2 = .ok (.string S) W2) := ⟨fun W' f => by
    obtain ⟨lb', mb', e1, e2, hlg, hmg, _⟩ := HLX.out
    injection e2 with e2
    injection e2 with e2
    injection e2 with e2
    subst e2
    have := rlread_any mb r dn R D n W' (HC.out.e.fr f (fun _ _ h => h)) (hmg.kept (f.keep _ hmg.lt (fun h => h))) (by have := HJ.out.u; omega)
    rw [hq, hS] at this
    exact this⟩
  have SC : Aside0 (∀ W', Fr (fun _ => False) W1 W' → Calls Try.prog 55 #[.pointer (some ⟨lb, 0, none⟩)] W' fun e w' => e = .returned (.int .i64 (D.n - 69)) ∧ w' = W') := ⟨fun W' f => by
    obtain ⟨lb', mb', e1, e2, hlg, hmg, _⟩ := HLX.out
    injection e1 with e1
    injection e1 with e1
    injection e1 with e1
    subst e1
    exact logsect_calls lb g dn B D W' (HC.out.d.fr f (fun _ _ h => h)) (hlg.kept (f.keep _ hlg.lt (fun h => h))) (by have := HDN.out; omega)⟩
  have RS : Aside0 (∀ W', Fr (fun _ => False) W1 W' → Calls Try.prog 71 #[.pointer (some ⟨mb, 0, none⟩)] W' fun e w' => e = .returned (.int .i64 (D.n - 69)) ∧ Drawn0 W' w') := ⟨fun W' f => by
    obtain ⟨lb', mb', e1, e2, hlg, hmg, _⟩ := HLX.out
    injection e2 with e2
    injection e2 with e2
    injection e2 with e2
    subst e2
    exact rlogsect_calls mb r dn R D W' (HC.out.e.fr f (fun _ _ h => h)) (hmg.kept (f.keep _ hmg.lt (fun h => h)))⟩
  have S0 : Aside0 (W1.cell? ⟨x, 1, none⟩ = some (.pointer (some ⟨lb, 0, none⟩)) ∧ W1.cell? ⟨x, 3, none⟩ = some (.pointer (some ⟨mb, 0, none⟩)) ∧ W1.cell? ⟨bx, 2, none⟩ = some (.int .i64 n)) := ⟨c1, c3, k2⟩
  have SF : Aside0 (∀ W', Fr (fun _ => False) W1 W' → W'.cell? ⟨x, 1, none⟩ = some (.pointer (some ⟨lb, 0, none⟩)) ∧ W'.cell? ⟨x, 3, none⟩ = some (.pointer (some ⟨mb, 0, none⟩)) ∧ W'.cell? ⟨bx, 2, none⟩ = some (.int .i64 n)) := ⟨fun W' f => ⟨cellK f S0.out.1, cellK f S0.out.2.1, cellK f S0.out.2.2⟩⟩
  clear hq hS c0 c1 c2 c3 cf k0 k1 k2 k3 k4 c3w
  have c1 := S0.out.1
  have k2 := S0.out.2.2
  go_region_held3 (fun W' => W'.cell? ⟨x, 1, none⟩ = some (.pointer (some ⟨lb, 0, none⟩)) ∧ W'.cell? ⟨bx, 2, none⟩ = some (.int .i64 n)) (first | exact And.intro c1 k2 | exact S2.out) (first
    | (go_at_call 56; refine (LC.out _ (Fr.refl _ W1).drew).mono ?_; rintro e w2 ⟨v2, rfl, f2, g2⟩; have S2 := Aside0.mk (And.intro (SF.out _ f2).1 (SF.out _ f2).2.2); have HF2 := Aside0.mk f2; have HG2 := Aside0.mk g2; clear f2 g2))
  clear c1 k2 S2 LC
  have c3 := (SF.out _ HF2.out).2.1
  have k2 := (SF.out _ HF2.out).2.2
  go_wp2_with fail
  go_region_held3 (fun W' => W'.cell? ⟨x, 3, none⟩ = some (.pointer (some ⟨mb, 0, none⟩)) ∧ W'.cell? ⟨bx, 2, none⟩ = some (.int .i64 n)) (first | exact And.intro c3 k2 | exact S3.out) (first
    | (go_at_call 70; refine (RC.out _ HF2.out.drew).mono ?_; rintro e w3 ⟨v3, rfl, f3, g3⟩; have HF23 := Aside0.mk ((Fr.refl (fun _ => False) w2).drew.trans f3 (fun _ h => h.elim)); have HF3 := Aside0.mk (HF2.out.trans HF23.out (fun _ h => h.elim)); have S3 := Aside0.mk (And.intro (SF.out _ HF3.out).2.1 (SF.out _ HF3.out).2.2); have HG3 := Aside0.mk g3; clear f3 g3))
  clear c3 k2 S3 RC
  have c1 := (SF.out _ HF3.out).1
  have c3 := (SF.out _ HF3.out).2.1
  have g2 : ∀ m, (convert 22 9 v2).run Try.prog (w3.drewN m) = .ok (.string S) (w3.drewN m) := fun m => HG2.out _ (HF23.out.drewN m)
  have g3 : ∀ m, (convert 22 9 v3).run Try.prog (w3.drewN m) = .ok (.string S) (w3.drewN m) := fun m => HG3.out _ ((Fr.refl _ w3).drewN m)
  have SQ : Aside0 (∀ m, Calls Try.prog 55 #[.pointer (some ⟨lb, 0, none⟩)] (w3.drewN m) fun e w' => e = .returned (.int .i64 (D.n - 69)) ∧ w' = w3.drewN m) := ⟨fun m => SC.out _ (HF3.out.drewN m)⟩
  have RQ : Aside0 (∀ m, Calls Try.prog 71 #[.pointer (some ⟨mb, 0, none⟩)] (w3.drewN m) fun e w' => e = .returned (.int .i64 (D.n - 69)) ∧ ∃ j, w' = (w3.drewN m).drewN j) := ⟨fun m => (RS.out _ (HF3.out.drewN m)).mono fun e w' ⟨he, hd⟩ => ⟨he, hd.out⟩⟩
  have HJP : Aside0 (JP lo x w3 D oo (i + 230)) := ⟨g, r, B, R, _, _, HX.out.kept (HF3.out.keep _ HX.out.lt (fun h => h)), HC.out.quiet HF3.out, HL.out.quiet HF3.out, HJ.out.mono (by omega), HB.out⟩
  clear SC RS
  go_wp2_with fail
  go_quiet (first
    | (go_at_call 55; exact Calls.quiet_of_same (SQ.out _))
    | (go_at_call 71; exact Calls.quiet_of (RQ.out _)))
  go_wp2_with fail
  go_ret
  exact ⟨rfl, ⟨D, oo, HJP.out.quiet ((Fr.refl _ w3).drewN _), rfl⟩, (HF1.out.trans HF3.out (fun _ h => h.elim)).drewN _⟩
end Go.Proofs.Ytppgbfkhiofjiaa.X
