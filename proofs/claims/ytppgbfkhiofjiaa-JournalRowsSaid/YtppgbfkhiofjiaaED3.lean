/-
  The contracts of settle, Flush and Mend.
-/
import Derived.Test.YtppgbfkhiofjiaaED2
namespace Go.Proofs.Ytppgbfkhiofjiaa.X
open Go.RowKit Go.Proofs.YtppgbfkhiofjiaaW.PrintWords Go.Proofs.YtppgbfkhiofjiaaW.PrintLast Go.Proofs.YtppgbfkhiofjiaaW.PrintMore
set_option linter.unusedVariables false
set_option linter.unusedSimpArgs false

def upd (f : Int → List Int) (n : Int) (b : List Int) : Int → List Int := fun i => if i = n then b else f i
/-- Some of the pending writes last. -/
def settleF (kp : Nat → Bool) : Nat → List (Int × List Int) → (Int → List Int) → Int → List Int
  | _, [], f => f
  | i, p :: l, f => settleF kp (i + 1) l (if kp i = true then upd f p.1 p.2 else f)
theorem settleF_drop (kp : Nat → Bool) (c : List (Int × List Int)) (i : Nat) (p : Int × List Int) (h : c[i]? = some p) (f : Int → List Int) : settleF kp i (c.drop i) f = settleF kp (i + 1) (c.drop (i + 1)) (if kp i = true then upd f p.1 p.2 else f) := by
  obtain ⟨hi, e⟩ := List.getElem?_eq_some_iff.1 h
  rw [List.drop_eq_getElem_cons hi, e]
  rfl
def settleD (kp : Nat → Bool) (D : DS) : DS := { D with f := settleF kp 0 D.c D.f, c := [], u := D.u + D.c.length }

set_option maxHeartbeats 1000000 in
theorem all_calls (i : Int) (w : World) : Calls Try.prog 46 #[.int .i64 i] w fun e w' => e = .returned (.bool true) ∧ Drawn0 w w' := by
  go_enter Try.func46, Try.ntmps46
  go_wp2
  go_ret
  exact ⟨rfl, Drawn0.refl _⟩

/-- One pending write's cells in a disk's row. -/
theorem IsDisk.at {w : World} {B : Nat → Prop} {g : Nat} {D : DS} {cv : Value} (h : IsDisk w B g D) (ho : w.ownsRow 0 93 65 cv D.c.length (encC D.c)) {i : Nat} {p : Int × List Int} (hp : D.c[i]? = some p) :
    ∃ gb cap, cv = .slice (some ⟨gb, 0, none⟩) D.c.length cap ∧ w.rangeAt gb (i * 65) (encP p) := by
  have hG : Good D.c := by obtain ⟨m, cv', _, _, _, _, _, _, h7, _⟩ := h; exact h7
  rcases ho.2 with ⟨_, hz⟩ | ⟨gb, cap, cur, e, _⟩
  · have := (List.getElem?_eq_some_iff.1 hp).1
    omega
  · refine ⟨gb, cap, e, fun j v hj => ?_⟩
    have hc := ho.cells (g := gb) (by rw [e]; rfl) (i * 65 + j) v (encC_at hG hp j v hj)
    rwa [Addr.add_mid, Nat.zero_add] at hc

/-- A sector is stored into the map. -/
theorem IsMapOf.update {w : World} {m u : Nat} {f : Int → List Int} (h : IsMapOf w m u f) (hu : u ≤ 2000000) {n : Int} (hn : (Lit.int .i64 n).wf = true) (b : List Int) :
    ∃ w', (Instr.mapUpdate 85 (.map (some m)) (.int .i64 n) (.agg (nums .u8 b).toArray)).run Try.prog w = .ok () w' ∧ IsMapOf w' m (u + 1) (upd f n b) ∧ w.grownBy w' (some m) := by
  obtain ⟨D, h1, h2, h3⟩ := h
  obtain ⟨w', e, h4, h5⟩ := h1.update (Maps.int_keyed Try.underlying3) Try.underlying85 (by unfold maxLen; omega) (key := .int .i64 n) (val := arr b) (Maps.keyOf_int_mk Try.underlying3 hn) (d := .held (arr b)) (ps := []) rfl
  refine ⟨w', e, ⟨_, h4, h2.put _ _, fun i => ?_⟩, h5⟩
  by_cases hi : i = n
  · subst hi
    rw [Maps.atKey_put_same h2 (by trivial)]
    simp [upd]
  · rw [Maps.atKey_put_other (by intro e; injection e with _ e; exact hi e), h3 i]
    simp [upd, hi]
/-- Other blocks may be counted its own. -/
theorem IsDisk.sup {w : World} {B B2 : Nat → Prop} {g : Nat} {D : DS} (h : IsDisk w B g D) (h1 : ∀ k, B k → B2 k) (h2 : ∀ k, B2 k → B k ∨ k < w.heap.size) : IsDisk w B2 g D := by
  obtain ⟨m, cv, a1, a2, a3, a4, a5, a6, a7, a8, a9⟩ := h
  exact ⟨m, cv, a1, h1 _ a2, h1 _ a3, fun k e => h1 _ (a4 k e), a5, a6, a7, a8, fun k hk => (h2 k hk).elim (a9 k) id⟩
theorem IsDisk.raise {w : World} {B : Nat → Prop} {g : Nat} {D : DS} (h : IsDisk w B g D) {u : Nat} (hu : D.u ≤ u) : IsDisk w B g { D with u := u } := by
  obtain ⟨m, cv, a1, a2, a3, a4, ⟨Dm, b1, b2, b3⟩, a6, a7, a8, a9⟩ := h
  exact ⟨m, cv, a1, a2, a3, a4, ⟨Dm, b1.mono hu, b2, b3⟩, a6, a7, a8, a9⟩
theorem IsDisk.putMap {w w' : World} {B : Nat → Prop} {g m : Nat} {D : DS} (h : IsDisk w B g D) (hc : w.cell? ⟨g, 1, none⟩ = some (.map (some m))) {f : Int → List Int} {u : Nat} (hm : IsMapOf w' m u f) (hf : ∀ i, (f i).length = 64) (hg : w.grownBy w' (some m)) :
    IsDisk w' B g { D with f := f, u := u } ∧ Fr B w w' := by
  obtain ⟨m', cv, h1, h2, h3, h4, h5, h6, h7, h8, h9⟩ := h
  have e : m' = m := by
    rw [cell_of_row w g 1 _ 88 (0, 0) h1] at hc
    simpa using hc
  subst e
  have hmg : m' ≠ g := by
    rintro rfl
    obtain ⟨_, ⟨es, clock, hb, _⟩, _⟩ := h5
    rw [h1] at hb
    cases hb
  have hcm : ∀ k, cv.ownBlock = some k → k ≠ m' := by
    rintro k e rfl
    obtain ⟨_, ⟨es, clock, hb', _⟩, _⟩ := h5
    rcases h6.2 with ⟨rfl, _⟩ | ⟨g', cap, cur, rfl, _, hb, _⟩
    · cases e
    · injection e with e
      subst e
      rw [hb'] at hb
      cases hb
  refine ⟨⟨m', cv, (hg.block g (h9 g h2) (fun e => hmg (by injection e with e; exact e.symm))).trans h1, h2, h3, h4, hm, ownsRow_kept h6 (fun k e => hg.block k (h9 k (h4 k e)) (fun e' => hcm k e (by injection e' with e'))), h7, hf, fun k hb => Nat.lt_of_lt_of_le (h9 k hb) hg.size⟩,
    (Fr.refl B w).grown hg (fun k e => .inl (by injection e with e; exact e ▸ h3))⟩

theorem Fr.setCells {B : Nat → Prop} {a : World} {bk : Nat} (hp : a.heap.size ≤ bk) : ∀ (vs : List Value) (o : Nat) (b : World), Fr B a b → Fr B a (b.setCells bk o vs)
  | [], _, _, h => h
  | v :: r, o, b, h => by
    rw [World.setCells]
    exact Fr.setCells hp r (o + 1) _ (h.setCell (.inr hp) v)
/-- A variable of many cells is made, and a value stored into it: what holds then. -/
theorem boxed {w : World} {z : Array Value} {t : TypeId} {vs : List Value} (hz : z.size = vs.length) (B : Nat → Prop) :
    Fr B w ((w.alloc (.cells z t)).setCells w.heap.size 0 vs) ∧ ((w.alloc (.cells z t)).setCells w.heap.size 0 vs).rangeAt w.heap.size 0 vs ∧ w.heap.size < ((w.alloc (.cells z t)).setCells w.heap.size 0 vs).heap.size ∧ (w.alloc (.cells z t)).there w.heap.size 0 vs.length := by
  have hb : (w.alloc (.cells z t)).heap[w.heap.size]? = some (.cells z t (0, 0)) := heap_alloc_new _ _
  have ht : (w.alloc (.cells z t)).there w.heap.size 0 vs.length := fun j hj => ⟨by
    rw [cell_of_row _ _ _ z t (0, 0) hb, Nat.zero_add, Array.getElem?_eq_getElem (by omega)]
    rfl, frozen_of_row _ _ _ z t hb⟩
  have hf := Fr.setCells (B := B) (Nat.le_refl w.heap.size) vs 0 (w.alloc (.cells z t)) ((Fr.refl B w).alloc _)
  have hf2 := Fr.setCells (B := B) (a := w.alloc (.cells z t)) (bk := (w.alloc (.cells z t)).heap.size) (Nat.le_refl _) vs 0 (w.alloc (.cells z t)) (Fr.refl B _)
  refine ⟨hf, World.rangeAt_setCells_same _ _ _ _ ht, ?_, ht⟩
  have : ∀ (vs : List Value) (o : Nat) (b : World), (b.setCells w.heap.size o vs).heap.size = b.heap.size := by
    intro vs
    induction vs with
    | nil => intro o b; rfl
    | cons v r ih => intro o b; rw [World.setCells, ih]; simp [World.setCell]
  rw [this]
  simp

set_option maxHeartbeats 4000000 in
set_option maxRecDepth 100000 in
theorem settle46 (g : Nat) (B : Nat → Prop) (D : DS) (kp : Nat → Bool) (w : World) (h : IsDisk w B g D) (hc : D.c.length ≤ 1000000) (hu : D.u ≤ 1000000)
    (hk : ∀ (w' : World) (i : Nat), i < D.c.length → Fr B w w' → Calls Try.prog 46 #[.int .i64 (i : Int)] w' fun e w'' => e = .returned (.bool (kp i)) ∧ Drawn0 w' w'') :
    Calls Try.prog 45 #[.pointer (some ⟨g, 0, none⟩), .func (.func 46) #[] #[]] w fun e w' => e = .returned (.tuple #[]) ∧ IsDisk w' B g (settleD kp D) ∧ Fr B w w' := by
  have HKP := Aside0.mk hk
  clear hk
  obtain ⟨m, cv, c0, c1, c2, c3, c4, c5, cf, hlt, im, own, ob, bm, bg⟩ := h.cells
  have H := Aside0.mk h
  have OWN := Aside0.mk own
  obtain ⟨n, hn⟩ : ∃ n, D.c.length = n := ⟨_, rfl⟩
  have HN := Aside0.mk hn
  rw [hn] at hc own
  obtain ⟨A, cap, rfl⟩ : ∃ A cap, cv = .slice A n cap := by
    rcases own.2 with ⟨rfl, rfl⟩ | ⟨gb, cap, cur, rfl, _⟩
    · exact ⟨none, 0, rfl⟩
    · exact ⟨_, _, rfl⟩
  have HF := Aside0.mk (Fr.refl B w)
  clear c0 c1 c3 c4 c5 cf im own ob bm bg h hn
  go_enter Try.func45, Try.ntmps45
  go_wp2
  go_loopg [4, 5, 11] n (fun kq v4 v5 v11 w' => ∃ (i : Nat) (f : Int → List Int), v11 = .int .i64 (i : Int) ∧ Aside0 (i + kq = n) ∧ Aside0 (settleF kp i (D.c.drop i) f = settleF kp 0 D.c D.f) ∧
      Aside0 (IsDisk w' B g { D with f := f, u := D.u + i }) ∧ Aside0 (Fr B w w') ∧ Aside0 (w'.cell? ⟨g, 2, none⟩ = some (.slice A n cap)))
  case atStart => exact ⟨0, D.f, rfl, ⟨by omega⟩, ⟨by rw [List.drop_zero]⟩, H, HF, ⟨c2⟩⟩
  case round =>
    clear H HF c2
    obtain ⟨i, f, rfl, HI, HS, HD, HF, HC⟩ := hrel
    cases gk with
    | zero =>
      have hge : decide ((i : Int) < (n : Int)) = false := by have := HI.out; simp; omega
      have hi : i = n := by have := HI.out; omega
      obtain ⟨m', cv', c0, c1, c2, c3, c4, c5, cf, hlt', im, own, ob, bm, bg⟩ := HD.out.cells
      have fz := cf 2
      clear c0 c1 c3 c4 c5 cf im own ob bm bg
      go_wp2
      go_end0
      have p := HD.out.put2 (w := wr) (v := .slice none 0 0) (c := []) ⟨rfl, .inl ⟨rfl, rfl⟩⟩ (fun q hq => by cases hq) (fun k e => by cases e)
      have hs := HS.out
      rw [hi, List.drop_of_length_le (by have := HN.out; omega)] at hs
      refine ⟨rfl, ?_, HF.out.trans p.2 (fun k hk => .inl hk)⟩
      have q := p.1.sup (B2 := B) (fun k hk => hk.elim id (fun e => by cases e)) (fun k hk => .inl (.inl hk))
      have e : settleD kp D = { D with f := f, c := [], u := D.u + i } := by
        unfold settleD
        rw [← hs, HN.out, hi]
        rfl
      rw [e]
      exact q
    | succ k1 =>
      have hlt2 : i < n := by have := HI.out; omega
      have hlt3 : decide ((i : Int) < (n : Int)) = true := by simp; omega
      obtain ⟨p, hp⟩ : ∃ p, D.c[i]? = some p := ⟨_, List.getElem?_eq_getElem (by have := HN.out; omega)⟩
      obtain ⟨m', cv', c0, c1, c2, c3, c4, c5, cf, hltg, im, own, ob, bm, bg⟩ := HD.out.cells
      have e := HC.out
      rw [c2] at e
      injection e with e
      subst e
      obtain ⟨gb, cap', e, hr⟩ := HD.out.at own hp
      injection e with e1 e2 e3
      subst e1
      have HP := Aside0.mk hp
      have hi0 : (0 : Int) ≤ (i : Int) := by omega
      have hi1 : (i : Int) < (n : Int) := by omega
      have u93 := Try.underlying93
      have hG : Good D.c := by obtain ⟨_, _, _, _, _, _, _, _, h7, _⟩ := HD.out; exact h7
      have hlp : Aside0 ((encP p).length = 65) := ⟨encP_length (hG p (List.mem_of_getElem? hp)).1⟩
      have i93 : (Try.prog.info? 93).map (·.size) = some (encP p).length := by rw [hlp.out]; kernel_rfl
      have hG := Aside0.mk hG
      clear c0 c2 c3 c4 c5 cf im own ob bm bg e2 e3 hp hlt2
      have hik : Aside0 (i < D.c.length) := ⟨by have := HN.out; omega⟩
      obtain ⟨kv, hkv⟩ : ∃ kv, kp i = kv := ⟨_, rfl⟩
      have HKV := Aside0.mk hkv
      clear hkv
      cases kv with
      | true =>
        have hz := boxed (w := wr) (z := Try.zeroCells93) (t := 93) (vs := encP p) (by rw [hlp.out]; rfl) (fun _ => False)
        have HZ := Aside0.mk hz
        clear hz
        go_wp2_with (first
          | ((with_reducible refine gate_dst (N := 15) rfl ?_); refine wpList_load_mid rfl 93 (.tmp 14) rfl gb (i * 65) rfl (encP p) _ hr u93 rfl i93 ?_; clear hr)
          | ((with_reducible refine gate_store (t := 93) (p := 5) rfl ?_); refine wpList_store_mid rfl 93 (.tmp 5) (.tmp 15) rfl wr.heap.size 0 (encP p).toArray rfl rfl HZ.out.2.2.2 (by rw [i93]; rfl) (all_oneCell_toArray (one_encP p)) ?_; obtain ⟨Wd, hWd⟩ : ∃ Wd, (wr.alloc (.cells Try.zeroCells93 93)).setCells wr.heap.size 0 (encP p).toArray.toList = Wd := ⟨_, rfl⟩; rw [hWd]; have HZ2 := HZ.out; rw [List.toList_toArray] at hWd; rw [hWd] at HZ2; clear hWd)
          | (go_at_call 46; refine (HKP.out _ i hik.out (HF.out.trans (HZ2.1.mono (fun _ h => h.elim)) (fun k hk => .inl hk))).mono ?_; rintro e w' ⟨he, ⟨nd, rfl⟩⟩; rw [HKV.out] at he; subst he))
        obtain ⟨W1, hW1⟩ : ∃ W1, Wd.drewN nd = W1 := ⟨_, rfl⟩
        have HF1 : Aside0 (Fr (fun _ => False) wr W1) := ⟨hW1 ▸ HZ2.1.drewN nd⟩
        have hr1 : W1.rangeAt wr.heap.size 0 (encP p) := hW1 ▸ HZ2.2.1
        rw [hW1]
        clear hW1 HZ2 HZ
        have HD1 := Aside0.mk (HD.out.fr HF1.out (fun k _ h => h))
        have HC1 : Aside0 (W1.cell? ⟨g, 2, none⟩ = some (.slice (some ⟨gb, 0, none⟩) n cap)) := ⟨(World.cell?_of_block (w := wr) (HF1.out.keep g hltg (fun h => h))).trans HC.out⟩
        obtain ⟨m1, cv1, c0, c1, c2, c3, c4, c5, cf, hltg1, im, own, ob, bm, bg⟩ := HD1.out.cells
        obtain ⟨w3, hrun, him, hgr⟩ := IsMapOf.update (w := W1.drew) im (by show D.u + i ≤ _; omega) (hG.out p (List.mem_of_getElem? HP.out)).2 p.2
        have hb0 : W1.cell? ⟨wr.heap.size, 0, none⟩ = some (.int .i64 p.1) := hr1 0 _ rfl
        have hb1 : W1.rangeAt wr.heap.size 1 (nums .u8 p.2) := fun j v hj => by
          have := hr1 (j + 1) v (by simpa [encP] using hj)
          rwa [show 0 + (j + 1) = 1 + j by omega] at this
        have hbl : wr.heap.size < W1.heap.size := World.block_lt_of_cell? _ _ hb0
        have hm1 : g ≠ m1 := by
          rintro rfl
          obtain ⟨_, ⟨es, clock, hb', _⟩, _⟩ := im
          have := cell_of_row
          unfold World.cell? at c1
          rw [hb'] at c1
          cases c1
        have hm2 : wr.heap.size ≠ m1 := by
          rintro rfl
          obtain ⟨_, ⟨es, clock, hb', _⟩, _⟩ := im
          unfold World.cell? at hb0
          rw [hb'] at hb0
          cases hb0
        have HIM := Aside0.mk him
        have HGR := Aside0.mk hgr
        have HRUN := Aside0.mk hrun
        have hsz1 : Aside0 (wr.heap.size < W1.heap.size) := ⟨hbl⟩
        have u91 := Try.underlying91
        have i91 : (Try.prog.info? 91).map (·.size) = some (nums .u8 p.2).length := by rw [nums_length, (hG.out p (List.mem_of_getElem? HP.out)).1]; exact info91
        have hC1 := Aside0.mk c1
        have hB0 := Aside0.mk hb0
        have hB1 := Aside0.mk hb1
        clear c0 c2 c3 c4 c5 cf im own ob bm bg him hgr hr1 hbl i93 u93
        go_region_held3 (fun w' => w'.cell? ⟨g, 1, none⟩ = some (.map (some m1)) ∧ w'.cell? ⟨wr.heap.size, 0, none⟩ = some (.int .i64 p.1) ∧ w'.rangeAt wr.heap.size 1 (nums .u8 p.2))
          (first
            | exact ⟨hC1.out, hB0.out, hB1.out⟩
            | exact ⟨(HGR.out.cell_far _ hltg1 (fun e => hm1 (by injection e))).trans hC1.out, (HGR.out.cell_far _ hsz1.out (fun e => hm2 (by injection e))).trans hB0.out, fun j v hj => (HGR.out.cell_far _ hsz1.out (fun e => hm2 (by injection e))).trans (hB1.out j v hj)⟩)
          (fail)
        have HD2 := HD1.out.drew.putMap hC1.out HIM.out (fun j => by
          unfold upd
          split
          · exact (hG.out p (List.mem_of_getElem? HP.out)).1
          · obtain ⟨_, _, _, _, _, _, _, _, _, h8, _⟩ := HD1.out; exact h8 j) (HGR.out)
        have HD3 := Aside0.mk HD2.1
        have HF3 : Aside0 (Fr B w w3) := ⟨(HF.out.trans (HF1.out.mono (fun _ h => h.elim)) (fun k hk => .inl hk)).drew.trans HD2.2 (fun k hk => .inl hk)⟩
        have HC3 : Aside0 (w3.cell? ⟨g, 2, none⟩ = some (.slice (some ⟨gb, 0, none⟩) n cap)) := ⟨(HGR.out.cell_far _ hltg1 (fun e => hm1 (by injection e))).trans HC1.out⟩
        have HS3 : Aside0 (settleF kp (i + 1) (D.c.drop (i + 1)) (upd f p.1 p.2) = settleF kp 0 D.c D.f) := ⟨by rw [← HS.out, settleF_drop _ _ _ _ HP.out, HKV.out, if_pos rfl]⟩
        have HI3 : Aside0 (i + 1 + k1 = n) := ⟨by have := HI.out; omega⟩
        have hwr : Aside0 (wrap64 ((i : Int) + 1) = ((i + 1 : Nat) : Int)) := ⟨by unfold wrap64; omega⟩
        clear HD2 hb0 hb1 c1
        go_wp2
        go_roundg k1
        case measure => omega
        case rel => exact ⟨i + 1, upd f p.1 p.2, by go_num, HI3, HS3, HD3, HF3, HC3⟩
      | false =>
        have hz := boxed (w := wr) (z := Try.zeroCells93) (t := 93) (vs := encP p) (by rw [hlp.out]; rfl) (fun _ => False)
        have HZ := Aside0.mk hz
        clear hz
        go_wp2_with (first
          | ((with_reducible refine gate_dst (N := 15) rfl ?_); refine wpList_load_mid rfl 93 (.tmp 14) rfl gb (i * 65) rfl (encP p) _ hr u93 rfl i93 ?_; clear hr)
          | ((with_reducible refine gate_store (t := 93) (p := 5) rfl ?_); refine wpList_store_mid rfl 93 (.tmp 5) (.tmp 15) rfl wr.heap.size 0 (encP p).toArray rfl rfl HZ.out.2.2.2 (by rw [i93]; rfl) (all_oneCell_toArray (one_encP p)) ?_; obtain ⟨Wd, hWd⟩ : ∃ Wd, (wr.alloc (.cells Try.zeroCells93 93)).setCells wr.heap.size 0 (encP p).toArray.toList = Wd := ⟨_, rfl⟩; rw [hWd]; have HZ2 := HZ.out; rw [List.toList_toArray] at hWd; rw [hWd] at HZ2; clear hWd)
          | (go_at_call 46; refine (HKP.out _ i hik.out (HF.out.trans (HZ2.1.mono (fun _ h => h.elim)) (fun k hk => .inl hk))).mono ?_; rintro e w' ⟨he, ⟨nd, rfl⟩⟩; rw [HKV.out] at he; subst he))
        obtain ⟨W1, hW1⟩ : ∃ W1, Wd.drewN nd = W1 := ⟨_, rfl⟩
        have HF1 : Aside0 (Fr (fun _ => False) wr W1) := ⟨hW1 ▸ HZ2.1.drewN nd⟩
        have hr1 : W1.rangeAt wr.heap.size 0 (encP p) := hW1 ▸ HZ2.2.1
        rw [hW1]
        clear hW1 HZ2 HZ
        have HD1 := Aside0.mk (HD.out.fr HF1.out (fun k _ h => h))
        have HC1 : Aside0 (W1.cell? ⟨g, 2, none⟩ = some (.slice (some ⟨gb, 0, none⟩) n cap)) := ⟨(World.cell?_of_block (w := wr) (HF1.out.keep g hltg (fun h => h))).trans HC.out⟩
        have HD3 : Aside0 (IsDisk W1 B g { D with f := f, u := D.u + (i + 1) }) := ⟨HD1.out.raise (by show D.u + i ≤ D.u + (i + 1); omega)⟩
        have HF3 : Aside0 (Fr B w W1) := ⟨HF.out.trans (HF1.out.mono (fun _ h => h.elim)) (fun k hk => .inl hk)⟩
        have HS3 : Aside0 (settleF kp (i + 1) (D.c.drop (i + 1)) f = settleF kp 0 D.c D.f) := ⟨by rw [← HS.out, settleF_drop _ _ _ _ HP.out, HKV.out]; rfl⟩
        have HI3 : Aside0 (i + 1 + k1 = n) := ⟨by have := HI.out; omega⟩
        have hwr : Aside0 (wrap64 ((i : Int) + 1) = ((i + 1 : Nat) : Int)) := ⟨by unfold wrap64; omega⟩
        clear hr1
        go_wp2
        go_roundg k1
        case measure => omega
        case rel => exact ⟨i + 1, f, by go_num, HI3, HS3, HD3, HF3, HC1⟩

set_option maxHeartbeats 4000000 in
set_option maxRecDepth 100000 in
theorem settle47 (g : Nat) (B : Nat → Prop) (D : DS) (kp : Nat → Bool) (kb : Nat) (w : World) (h : IsDisk w B g D) (hc : D.c.length ≤ 1000000) (hu : D.u ≤ 1000000)
    (hk : ∀ (w' : World) (i : Nat), i < D.c.length → Fr B w w' → Calls Try.prog 47 #[.int .i64 (i : Int), .pointer (some ⟨kb, 0, none⟩)] w' fun e w'' => e = .returned (.bool (kp i)) ∧ Drawn0 w' w'') :
    Calls Try.prog 45 #[.pointer (some ⟨g, 0, none⟩), .func (.func 47) #[] #[.pointer (some ⟨kb, 0, none⟩)]] w fun e w' => e = .returned (.tuple #[]) ∧ IsDisk w' B g (settleD kp D) ∧ Fr B w w' := by
  have HKP := Aside0.mk hk
  clear hk
  obtain ⟨m, cv, c0, c1, c2, c3, c4, c5, cf, hlt, im, own, ob, bm, bg⟩ := h.cells
  have H := Aside0.mk h
  have OWN := Aside0.mk own
  obtain ⟨n, hn⟩ : ∃ n, D.c.length = n := ⟨_, rfl⟩
  have HN := Aside0.mk hn
  rw [hn] at hc own
  obtain ⟨A, cap, rfl⟩ : ∃ A cap, cv = .slice A n cap := by
    rcases own.2 with ⟨rfl, rfl⟩ | ⟨gb, cap, cur, rfl, _⟩
    · exact ⟨none, 0, rfl⟩
    · exact ⟨_, _, rfl⟩
  have HF := Aside0.mk (Fr.refl B w)
  clear c0 c1 c3 c4 c5 cf im own ob bm bg h hn
  go_enter Try.func45, Try.ntmps45
  go_wp2
  go_loopg [4, 5, 11] n (fun kq v4 v5 v11 w' => ∃ (i : Nat) (f : Int → List Int), v11 = .int .i64 (i : Int) ∧ Aside0 (i + kq = n) ∧ Aside0 (settleF kp i (D.c.drop i) f = settleF kp 0 D.c D.f) ∧
      Aside0 (IsDisk w' B g { D with f := f, u := D.u + i }) ∧ Aside0 (Fr B w w') ∧ Aside0 (w'.cell? ⟨g, 2, none⟩ = some (.slice A n cap)))
  case atStart => exact ⟨0, D.f, rfl, ⟨by omega⟩, ⟨by rw [List.drop_zero]⟩, H, HF, ⟨c2⟩⟩
  case round =>
    clear H HF c2
    obtain ⟨i, f, rfl, HI, HS, HD, HF, HC⟩ := hrel
    cases gk with
    | zero =>
      have hge : decide ((i : Int) < (n : Int)) = false := by have := HI.out; simp; omega
      have hi : i = n := by have := HI.out; omega
      obtain ⟨m', cv', c0, c1, c2, c3, c4, c5, cf, hlt', im, own, ob, bm, bg⟩ := HD.out.cells
      have fz := cf 2
      clear c0 c1 c3 c4 c5 cf im own ob bm bg
      go_wp2
      go_end0
      have p := HD.out.put2 (w := wr) (v := .slice none 0 0) (c := []) ⟨rfl, .inl ⟨rfl, rfl⟩⟩ (fun q hq => by cases hq) (fun k e => by cases e)
      have hs := HS.out
      rw [hi, List.drop_of_length_le (by have := HN.out; omega)] at hs
      refine ⟨rfl, ?_, HF.out.trans p.2 (fun k hk => .inl hk)⟩
      have q := p.1.sup (B2 := B) (fun k hk => hk.elim id (fun e => by cases e)) (fun k hk => .inl (.inl hk))
      have e : settleD kp D = { D with f := f, c := [], u := D.u + i } := by
        unfold settleD
        rw [← hs, HN.out, hi]
        rfl
      rw [e]
      exact q
    | succ k1 =>
      have hlt2 : i < n := by have := HI.out; omega
      have hlt3 : decide ((i : Int) < (n : Int)) = true := by simp; omega
      obtain ⟨p, hp⟩ : ∃ p, D.c[i]? = some p := ⟨_, List.getElem?_eq_getElem (by have := HN.out; omega)⟩
      obtain ⟨m', cv', c0, c1, c2, c3, c4, c5, cf, hltg, im, own, ob, bm, bg⟩ := HD.out.cells
      have e := HC.out
      rw [c2] at e
      injection e with e
      subst e
      obtain ⟨gb, cap', e, hr⟩ := HD.out.at own hp
      injection e with e1 e2 e3
      subst e1
      have HP := Aside0.mk hp
      have hi0 : (0 : Int) ≤ (i : Int) := by omega
      have hi1 : (i : Int) < (n : Int) := by omega
      have u93 := Try.underlying93
      have hG : Good D.c := by obtain ⟨_, _, _, _, _, _, _, _, h7, _⟩ := HD.out; exact h7
      have hlp : Aside0 ((encP p).length = 65) := ⟨encP_length (hG p (List.mem_of_getElem? hp)).1⟩
      have i93 : (Try.prog.info? 93).map (·.size) = some (encP p).length := by rw [hlp.out]; kernel_rfl
      have hG := Aside0.mk hG
      clear c0 c2 c3 c4 c5 cf im own ob bm bg e2 e3 hp hlt2
      have hik : Aside0 (i < D.c.length) := ⟨by have := HN.out; omega⟩
      obtain ⟨kv, hkv⟩ : ∃ kv, kp i = kv := ⟨_, rfl⟩
      have HKV := Aside0.mk hkv
      clear hkv
      cases kv with
      | true =>
        have hz := boxed (w := wr) (z := Try.zeroCells93) (t := 93) (vs := encP p) (by rw [hlp.out]; rfl) (fun _ => False)
        have HZ := Aside0.mk hz
        clear hz
        go_wp2_with (first
          | ((with_reducible refine gate_dst (N := 15) rfl ?_); refine wpList_load_mid rfl 93 (.tmp 14) rfl gb (i * 65) rfl (encP p) _ hr u93 rfl i93 ?_; clear hr)
          | ((with_reducible refine gate_store (t := 93) (p := 5) rfl ?_); refine wpList_store_mid rfl 93 (.tmp 5) (.tmp 15) rfl wr.heap.size 0 (encP p).toArray rfl rfl HZ.out.2.2.2 (by rw [i93]; rfl) (all_oneCell_toArray (one_encP p)) ?_; obtain ⟨Wd, hWd⟩ : ∃ Wd, (wr.alloc (.cells Try.zeroCells93 93)).setCells wr.heap.size 0 (encP p).toArray.toList = Wd := ⟨_, rfl⟩; rw [hWd]; have HZ2 := HZ.out; rw [List.toList_toArray] at hWd; rw [hWd] at HZ2; clear hWd)
          | (go_at_call 47; refine (HKP.out _ i hik.out (HF.out.trans (HZ2.1.mono (fun _ h => h.elim)) (fun k hk => .inl hk))).mono ?_; rintro e w' ⟨he, ⟨nd, rfl⟩⟩; rw [HKV.out] at he; subst he))
        obtain ⟨W1, hW1⟩ : ∃ W1, Wd.drewN nd = W1 := ⟨_, rfl⟩
        have HF1 : Aside0 (Fr (fun _ => False) wr W1) := ⟨hW1 ▸ HZ2.1.drewN nd⟩
        have hr1 : W1.rangeAt wr.heap.size 0 (encP p) := hW1 ▸ HZ2.2.1
        rw [hW1]
        clear hW1 HZ2 HZ
        have HD1 := Aside0.mk (HD.out.fr HF1.out (fun k _ h => h))
        have HC1 : Aside0 (W1.cell? ⟨g, 2, none⟩ = some (.slice (some ⟨gb, 0, none⟩) n cap)) := ⟨(World.cell?_of_block (w := wr) (HF1.out.keep g hltg (fun h => h))).trans HC.out⟩
        obtain ⟨m1, cv1, c0, c1, c2, c3, c4, c5, cf, hltg1, im, own, ob, bm, bg⟩ := HD1.out.cells
        obtain ⟨w3, hrun, him, hgr⟩ := IsMapOf.update (w := W1.drew) im (by show D.u + i ≤ _; omega) (hG.out p (List.mem_of_getElem? HP.out)).2 p.2
        have hb0 : W1.cell? ⟨wr.heap.size, 0, none⟩ = some (.int .i64 p.1) := hr1 0 _ rfl
        have hb1 : W1.rangeAt wr.heap.size 1 (nums .u8 p.2) := fun j v hj => by
          have := hr1 (j + 1) v (by simpa [encP] using hj)
          rwa [show 0 + (j + 1) = 1 + j by omega] at this
        have hbl : wr.heap.size < W1.heap.size := World.block_lt_of_cell? _ _ hb0
        have hm1 : g ≠ m1 := by
          rintro rfl
          obtain ⟨_, ⟨es, clock, hb', _⟩, _⟩ := im
          have := cell_of_row
          unfold World.cell? at c1
          rw [hb'] at c1
          cases c1
        have hm2 : wr.heap.size ≠ m1 := by
          rintro rfl
          obtain ⟨_, ⟨es, clock, hb', _⟩, _⟩ := im
          unfold World.cell? at hb0
          rw [hb'] at hb0
          cases hb0
        have HIM := Aside0.mk him
        have HGR := Aside0.mk hgr
        have HRUN := Aside0.mk hrun
        have hsz1 : Aside0 (wr.heap.size < W1.heap.size) := ⟨hbl⟩
        have u91 := Try.underlying91
        have i91 : (Try.prog.info? 91).map (·.size) = some (nums .u8 p.2).length := by rw [nums_length, (hG.out p (List.mem_of_getElem? HP.out)).1]; exact info91
        have hC1 := Aside0.mk c1
        have hB0 := Aside0.mk hb0
        have hB1 := Aside0.mk hb1
        clear c0 c2 c3 c4 c5 cf im own ob bm bg him hgr hr1 hbl i93 u93
        go_region_held3 (fun w' => w'.cell? ⟨g, 1, none⟩ = some (.map (some m1)) ∧ w'.cell? ⟨wr.heap.size, 0, none⟩ = some (.int .i64 p.1) ∧ w'.rangeAt wr.heap.size 1 (nums .u8 p.2))
          (first
            | exact ⟨hC1.out, hB0.out, hB1.out⟩
            | exact ⟨(HGR.out.cell_far _ hltg1 (fun e => hm1 (by injection e))).trans hC1.out, (HGR.out.cell_far _ hsz1.out (fun e => hm2 (by injection e))).trans hB0.out, fun j v hj => (HGR.out.cell_far _ hsz1.out (fun e => hm2 (by injection e))).trans (hB1.out j v hj)⟩)
          (fail)
        have HD2 := HD1.out.drew.putMap hC1.out HIM.out (fun j => by
          unfold upd
          split
          · exact (hG.out p (List.mem_of_getElem? HP.out)).1
          · obtain ⟨_, _, _, _, _, _, _, _, _, h8, _⟩ := HD1.out; exact h8 j) (HGR.out)
        have HD3 := Aside0.mk HD2.1
        have HF3 : Aside0 (Fr B w w3) := ⟨(HF.out.trans (HF1.out.mono (fun _ h => h.elim)) (fun k hk => .inl hk)).drew.trans HD2.2 (fun k hk => .inl hk)⟩
        have HC3 : Aside0 (w3.cell? ⟨g, 2, none⟩ = some (.slice (some ⟨gb, 0, none⟩) n cap)) := ⟨(HGR.out.cell_far _ hltg1 (fun e => hm1 (by injection e))).trans HC1.out⟩
        have HS3 : Aside0 (settleF kp (i + 1) (D.c.drop (i + 1)) (upd f p.1 p.2) = settleF kp 0 D.c D.f) := ⟨by rw [← HS.out, settleF_drop _ _ _ _ HP.out, HKV.out, if_pos rfl]⟩
        have HI3 : Aside0 (i + 1 + k1 = n) := ⟨by have := HI.out; omega⟩
        have hwr : Aside0 (wrap64 ((i : Int) + 1) = ((i + 1 : Nat) : Int)) := ⟨by unfold wrap64; omega⟩
        clear HD2 hb0 hb1 c1
        go_wp2
        go_roundg k1
        case measure => omega
        case rel => exact ⟨i + 1, upd f p.1 p.2, by go_num, HI3, HS3, HD3, HF3, HC3⟩
      | false =>
        have hz := boxed (w := wr) (z := Try.zeroCells93) (t := 93) (vs := encP p) (by rw [hlp.out]; rfl) (fun _ => False)
        have HZ := Aside0.mk hz
        clear hz
        go_wp2_with (first
          | ((with_reducible refine gate_dst (N := 15) rfl ?_); refine wpList_load_mid rfl 93 (.tmp 14) rfl gb (i * 65) rfl (encP p) _ hr u93 rfl i93 ?_; clear hr)
          | ((with_reducible refine gate_store (t := 93) (p := 5) rfl ?_); refine wpList_store_mid rfl 93 (.tmp 5) (.tmp 15) rfl wr.heap.size 0 (encP p).toArray rfl rfl HZ.out.2.2.2 (by rw [i93]; rfl) (all_oneCell_toArray (one_encP p)) ?_; obtain ⟨Wd, hWd⟩ : ∃ Wd, (wr.alloc (.cells Try.zeroCells93 93)).setCells wr.heap.size 0 (encP p).toArray.toList = Wd := ⟨_, rfl⟩; rw [hWd]; have HZ2 := HZ.out; rw [List.toList_toArray] at hWd; rw [hWd] at HZ2; clear hWd)
          | (go_at_call 47; refine (HKP.out _ i hik.out (HF.out.trans (HZ2.1.mono (fun _ h => h.elim)) (fun k hk => .inl hk))).mono ?_; rintro e w' ⟨he, ⟨nd, rfl⟩⟩; rw [HKV.out] at he; subst he))
        obtain ⟨W1, hW1⟩ : ∃ W1, Wd.drewN nd = W1 := ⟨_, rfl⟩
        have HF1 : Aside0 (Fr (fun _ => False) wr W1) := ⟨hW1 ▸ HZ2.1.drewN nd⟩
        have hr1 : W1.rangeAt wr.heap.size 0 (encP p) := hW1 ▸ HZ2.2.1
        rw [hW1]
        clear hW1 HZ2 HZ
        have HD1 := Aside0.mk (HD.out.fr HF1.out (fun k _ h => h))
        have HC1 : Aside0 (W1.cell? ⟨g, 2, none⟩ = some (.slice (some ⟨gb, 0, none⟩) n cap)) := ⟨(World.cell?_of_block (w := wr) (HF1.out.keep g hltg (fun h => h))).trans HC.out⟩
        have HD3 : Aside0 (IsDisk W1 B g { D with f := f, u := D.u + (i + 1) }) := ⟨HD1.out.raise (by show D.u + i ≤ D.u + (i + 1); omega)⟩
        have HF3 : Aside0 (Fr B w W1) := ⟨HF.out.trans (HF1.out.mono (fun _ h => h.elim)) (fun k hk => .inl hk)⟩
        have HS3 : Aside0 (settleF kp (i + 1) (D.c.drop (i + 1)) f = settleF kp 0 D.c D.f) := ⟨by rw [← HS.out, settleF_drop _ _ _ _ HP.out, HKV.out]; rfl⟩
        have HI3 : Aside0 (i + 1 + k1 = n) := ⟨by have := HI.out; omega⟩
        have hwr : Aside0 (wrap64 ((i : Int) + 1) = ((i + 1 : Nat) : Int)) := ⟨by unfold wrap64; omega⟩
        clear hr1
        go_wp2
        go_roundg k1
        case measure => omega
        case rel => exact ⟨i + 1, f, by go_num, HI3, HS3, HD3, HF3, HC1⟩

end Go.Proofs.Ytppgbfkhiofjiaa.X
