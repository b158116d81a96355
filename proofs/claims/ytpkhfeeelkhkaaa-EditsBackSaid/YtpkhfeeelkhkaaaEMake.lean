/-
  The contract of edits.Make: the script that keeps some lines.
-/
import Derived.Test.YtpkhfeeelkhkaaaEInvert
import Derived.RangeFuncNested
namespace Go.Proofs.Ytpkhfeeelkhkaaa.X
open Go.RowKit Go.Proofs.YtpkhfeeelkhkaaaW.PrintWords Go.Proofs.YtpkhfeeelkhkaaaW.PrintLast Go.Proofs.YtpkhfeeelkhkaaaW.PrintMore
attribute [local go_sem] Oper.semAt_some
set_option linter.unusedVariables false
set_option linter.unusedSimpArgs false

/-- A line that is kept is reached. -/
def reachL (acc : List S54) (a b i k : Int) : List S54 := if a < i ∨ b < k then acc ++ [⟨a, i - a, b, k - b⟩] else acc
/-- The script, from the line i on, behind the places a and b. -/
def makeG : List Int → Int → Int → Int → Int → List S54 → List S54 × Int
  | [], i, a, b, m, acc => (reachL acc a b i m, 0)
  | k :: l, i, a, b, m, acc => if k = -1 then makeG l (i + 1) a b m acc else if k < b ∨ m ≤ k then ([], 50) else makeG l (i + 1) (i + 1) (k + 1) m (reachL acc a b i k)
def edits_Make.f (l0 : List Int) (a1 : Int) : Option (List S54 × Int) :=
  if l0.length < 4398046511104 ∧ a1 ≤ 9223372036854775807 then (if a1 < 0 then some ([], 50) else some (makeG l0 0 0 0 a1 [])) else none

theorem boxes_app {W w1 : World} {ba bb bl n₀ n : Nat} {v x y : Value} {xs : List Value} (ha : Boxed W ba 3 x) (hb : Boxed W bb 3 y) (hl : Boxed W bl 22 v) (ho : W.ownsRow n₀ 54 4 v n xs) (h1 : ba < n₀) (h2 : bb < n₀) (h3 : bl < n₀) (hg : W.grownBy w1 v.ownBlock) :
    Boxed w1 ba 3 x ∧ Boxed w1 bb 3 y ∧ Boxed w1 bl 22 v := by
  have hne : ∀ q, q < n₀ → some q ≠ v.ownBlock := fun q hq e => by have := own_base ho q e.symm; omega
  exact ⟨ha.kept hg (hne _ h1), hb.kept hg (hne _ h2), hl.kept hg (hne _ h3)⟩

theorem boxes_end {W : World} {ba bb bl n₀ n : Nat} {v x y : Value} {xs : List Value} (x' y' : Value) (ha : Boxed W ba 3 x) (hb : Boxed W bb 3 y) (hl : Boxed W bl 22 v) (ho : W.ownsRow n₀ 54 4 v n xs) (d1 : ba ≠ bb) (d2 : bl ≠ ba) (d3 : bl ≠ bb) (h1 : ba < n₀) (h2 : bb < n₀) (h3 : bl < n₀) :
    Boxed ((W.setCell ⟨ba, 0, none⟩ x').setCell ⟨bb, 0, none⟩ y') ba 3 x' ∧ Boxed ((W.setCell ⟨ba, 0, none⟩ x').setCell ⟨bb, 0, none⟩ y') bb 3 y' ∧ Boxed ((W.setCell ⟨ba, 0, none⟩ x').setCell ⟨bb, 0, none⟩ y') bl 22 v ∧
      ((W.setCell ⟨ba, 0, none⟩ x').setCell ⟨bb, 0, none⟩ y').ownsRow n₀ 54 4 v n xs ∧ (∀ q, q ≤ ba → q ≤ bb → Below q W ((W.setCell ⟨ba, 0, none⟩ x').setCell ⟨bb, 0, none⟩ y')) :=
  ⟨(ha.set x').other d1 y', (hb.other d1.symm x').set y', (hl.other d2 x').other d3 y', ownsRow_setCell_below (ownsRow_setCell_below ho h1 x') h2 y',
    fun q q1 q2 => ((Below.refl q W).setCell q1 x').setCell q2 y'⟩

set_option maxHeartbeats 2000000 in
set_option maxRecDepth 100000 in
theorem make1_calls (i k a b : Int) (ba bb bl n₀ : Nat) (v : Value) (acc : List S54) (w : World) (ha : Boxed w ba 3 (.int .i64 a)) (hb : Boxed w bb 3 (.int .i64 b)) (hl : Boxed w bl 22 v) (ho : w.ownsRow n₀ 54 4 v acc.length (cells4 acc))
    (d1 : ba ≠ bb) (d2 : bl ≠ ba) (d3 : bl ≠ bb) (hba : ba < n₀) (hbb : bb < n₀) (hbl : bl < n₀) (hn : n₀ ≤ w.heap.size) (a0 : 0 ≤ a) (a1 : a ≤ i) (i1 : i ≤ 4398046511104) (b0 : 0 ≤ b) (b1 : b ≤ k) (k1 : k ≤ 9223372036854775807) (hacc : acc.length < 4398046511104) :
    Calls Try.prog 34 #[.int .i64 i, .int .i64 k, .pointer (some ⟨ba, 0, none⟩), .pointer (some ⟨bb, 0, none⟩), .pointer (some ⟨bl, 0, none⟩)] w fun e w' => e = .returned (.tuple #[]) ∧
      ∃ v', Boxed w' ba 3 (.int .i64 (i + 1)) ∧ Boxed w' bb 3 (.int .i64 (wrap64 (k + 1))) ∧ Boxed w' bl 22 v' ∧ w'.ownsRow n₀ 54 4 v' (reachL acc a b i k).length (cells4 (reachL acc a b i k)) ∧ (∀ q, q ≤ ba → q ≤ bb → q ≤ bl → Below q w w') := by
  have hu54 := Try.underlying54
  have HA := Aside0.mk ha
  have HB := Aside0.mk hb
  have HL := Aside0.mk hl
  have HO := Aside0.mk ho
  have ca := ha.cell
  have fa := ha.frozen
  have cb := hb.cell
  have fb := hb.frozen
  have cl := hl.cell
  have fl := hl.frozen
  have hw1 : Aside0 (wrap64 (i + 1) = i + 1) := ⟨by unfold wrap64; omega⟩
  clear ha hb hl ho
  by_cases hgt : a < i ∨ b < k
  · have hr : reachL acc a b i k = acc ++ [⟨a, i - a, b, k - b⟩] := by unfold reachL; rw [if_pos hgt]
    obtain ⟨acc', hacc'⟩ : ∃ acc', acc ++ [(⟨a, i - a, b, k - b⟩ : S54)] = acc' := ⟨_, rfl⟩
    rw [hr, hacc']
    have hs1 : Aside0 (wrap64 (i - a) = i - a) := ⟨by unfold wrap64; omega⟩
    have hs2 : Aside0 (wrap64 (k - b) = k - b) := ⟨by unfold wrap64; omega⟩
    have HG := Aside0.mk hgt
    clear hr hgt
    go_enter Try.func34, Try.ntmps34
    by_cases hia : a < i
    · have q1 : decide (i > a) = true := by simpa using hia
      go_wp2_with (first | ((with_reducible refine gate_builtin (b := .append) (xs := #[.tmp 15, .tmp 25]) rfl ?_); at_builtin; refine Kd.R_append k54 (w0 := w) n₀ rfl (.tmp 15) (.tmp 25) 22 54 (.agg #[.int .i64 0, .int .i64 0, .int .i64 0, .int .i64 0]) 32 rfl Try.underlying22 info54 rfl (by decide) (by omega) v acc (⟨a, i - a, b, k - b⟩ : S54) [.int .i64 a, .int .i64 (i - a), .int .i64 b, .int .i64 (k - b)] (fun _ => True) (fun _ => False) rfl rfl (k54_mkM _ _ _ (⟨a, i - a, b, k - b⟩ : S54)) (fun _ hk => hk.elim) (fun _ _ => trivial) (R_of_own4 HO.out) (Below.refl _ _) hn (by omega) ?_; intro v1 w2 hO2 hB2 hg2 _; have ho2 := own4_of_R hO2; rw [hacc'] at ho2; obtain ⟨ga, gb, gl⟩ := boxes_app HA.out HB.out HL.out HO.out hba hbb hbl hg2; obtain ⟨Av, cv, rfl⟩ := own_slice ho2; have HO2 := Aside0.mk ho2; have HB2 := Aside0.mk hB2; have HGA := Aside0.mk ga; have HGB := Aside0.mk gb; have HGL := Aside0.mk gl; have gca := ga.cell; have gfa := ga.frozen; have gcb := gb.cell; have gfb := gb.frozen; have gcl := gl.cell; have gfl := gl.frozen; clear ga gb gl hO2 hB2 hg2 ho2 ca fa cb fb cl fl))
      go_end0
      obtain ⟨e1, e2, e3, e4, e5⟩ := boxes_end (.int .i64 (i + 1)) (.int .i64 (wrap64 (k + 1))) (HGA.out.other d2.symm (.slice Av acc'.length cv)) (HGB.out.other d3.symm _) (HGL.out.set _) (ownsRow_setCell_below HO2.out hbl _) d1 d2 d3 hba hbb hbl
      have e6 : ∀ q, q ≤ ba → q ≤ bb → q ≤ bl → Below q w _ := fun q q1 q2 q3 => ((HB2.out.mono (by omega)).setCell q3 _).trans (e5 q q1 q2)
      first | exact ⟨rfl, e1, e2, _, e3, e4, e6⟩ | exact ⟨rfl, _, e1, e2, e3, e4, e6⟩
    · have hkb : b < k := HG.out.resolve_left hia
      have q1 : decide (i > a) = false := by simpa using hia
      have q2 : decide (k > b) = true := by simpa using hkb
      go_wp2_with (first | ((with_reducible refine gate_builtin (b := .append) (xs := #[.tmp 15, .tmp 25]) rfl ?_); at_builtin; refine Kd.R_append k54 (w0 := w) n₀ rfl (.tmp 15) (.tmp 25) 22 54 (.agg #[.int .i64 0, .int .i64 0, .int .i64 0, .int .i64 0]) 32 rfl Try.underlying22 info54 rfl (by decide) (by omega) v acc (⟨a, i - a, b, k - b⟩ : S54) [.int .i64 a, .int .i64 (i - a), .int .i64 b, .int .i64 (k - b)] (fun _ => True) (fun _ => False) rfl rfl (k54_mkM _ _ _ (⟨a, i - a, b, k - b⟩ : S54)) (fun _ hk => hk.elim) (fun _ _ => trivial) (R_of_own4 HO.out) (Below.refl _ _) hn (by omega) ?_; intro v1 w2 hO2 hB2 hg2 _; have ho2 := own4_of_R hO2; rw [hacc'] at ho2; obtain ⟨ga, gb, gl⟩ := boxes_app HA.out HB.out HL.out HO.out hba hbb hbl hg2; obtain ⟨Av, cv, rfl⟩ := own_slice ho2; have HO2 := Aside0.mk ho2; have HB2 := Aside0.mk hB2; have HGA := Aside0.mk ga; have HGB := Aside0.mk gb; have HGL := Aside0.mk gl; have gca := ga.cell; have gfa := ga.frozen; have gcb := gb.cell; have gfb := gb.frozen; have gcl := gl.cell; have gfl := gl.frozen; clear ga gb gl hO2 hB2 hg2 ho2 ca fa cb fb cl fl))
      go_end0
      obtain ⟨e1, e2, e3, e4, e5⟩ := boxes_end (.int .i64 (i + 1)) (.int .i64 (wrap64 (k + 1))) (HGA.out.other d2.symm (.slice Av acc'.length cv)) (HGB.out.other d3.symm _) (HGL.out.set _) (ownsRow_setCell_below HO2.out hbl _) d1 d2 d3 hba hbb hbl
      have e6 : ∀ q, q ≤ ba → q ≤ bb → q ≤ bl → Below q w _ := fun q q1 q2 q3 => ((HB2.out.mono (by omega)).setCell q3 _).trans (e5 q q1 q2)
      first | exact ⟨rfl, e1, e2, _, e3, e4, e6⟩ | exact ⟨rfl, _, e1, e2, e3, e4, e6⟩
  · have hia : ¬ a < i := fun h => hgt (.inl h)
    have hkb : ¬ b < k := fun h => hgt (.inr h)
    have q1 : decide (i > a) = false := by simpa using hia
    have q2 : decide (k > b) = false := by simpa using hkb
    have hr : reachL acc a b i k = acc := by unfold reachL; rw [if_neg hgt]
    rw [hr]
    clear hr hgt
    go_enter Try.func34, Try.ntmps34
    go_wp2
    go_end0
    obtain ⟨e1, e2, e3, e4, e5⟩ := boxes_end (.int .i64 (i + 1)) (.int .i64 (wrap64 (k + 1))) HA.out HB.out HL.out HO.out d1 d2 d3 hba hbb hbl
    exact ⟨rfl, e1, e2, v, e3, e4, fun q q1 q2 _ => e5 q q1 q2⟩

theorem reachL_length (acc : List S54) (a b i k : Int) : acc.length ≤ (reachL acc a b i k).length ∧ (reachL acc a b i k).length ≤ acc.length + 1 := by
  unfold reachL
  split <;> simp
theorem drop_int (l : List Int) (i : Int) (h0 : 0 ≤ i) (h1 : i < l.length) : l.drop i.toNat = rd l i :: l.drop (i + 1).toNat := by
  have hl : i.toNat < l.length := by omega
  rw [List.drop_eq_getElem_cons hl, show (i + 1).toNat = i.toNat + 1 by omega]
  simp [rd, List.getD_eq_getElem?_getD, List.getElem?_eq_getElem hl]

set_option maxHeartbeats 2000000 in
set_option maxRecDepth 100000 in
theorem edits_Make.calls (A0 : Option Addr) (c0 : Nat) (l0 : List Int) (a1 : Int) (r1 : List S54) (r2 : Int) (w : World) (hr0 : Kd.C (Kd.int .i64) w A0 l0.length l0) (hc0 : l0.length ≤ c0) (h : edits_Make.f l0 a1 = some (r1, r2)) :
    Calls Try.prog 27 #[.slice A0 l0.length c0, .int .i64 a1] w fun e w' => ∃ v0_ : Value, e = .returned (.tuple #[v0_, .int .i64 r2]) ∧ Kd.R k54 54 w' w.heap.size (fun _ => True) v0_ r1 ∧ Below w.heap.size w w' := by
  have hu54 := Try.underlying54
  unfold edits_Make.f at h
  split at h
  rotate_left
  · cases h
  rename_i hg
  obtain ⟨hg1, hg2⟩ := hg
  have HR0 := Aside0.mk hr0
  have HC0 := Aside0.mk hc0
  clear hr0 hc0
  by_cases hneg : a1 < 0
  · rw [if_pos hneg] at h
    injection h with h
    injection h with h1 h2
    subst h1
    subst h2
    have q1 : decide (a1 < 0) = true := by simpa using hneg
    go_enter Try.func27, Try.ntmps27
    go_wp2
    go_ret2
    exact ⟨_, rfl, Kd.R_nil _ _ _ _ _, Below.refl _ _⟩
  · rw [if_neg hneg] at h
    injection h with h
    have H := Aside0.mk h
    clear h
    have q1 : decide (a1 < 0) = false := by simpa using hneg
    obtain ⟨n, hn⟩ : ∃ n, l0.length = n := ⟨_, rfl⟩
    have HN := Aside0.mk hn
    rw [hn] at hg1 ⊢
    clear hn
    go_enter Try.func27, Try.ntmps27
    have HL1 : Aside0 (n ≤ 9223372036854775807) := ⟨by omega⟩
    go_wp2
    go_loopg [10, 11, 17] n (fun kq v10 v11 v17 w' => ∃ (x a b : Int) (acc : List S54) (v : Value), v17 = .int .i64 x ∧ Aside0 (0 ≤ x ∧ x + kq = n) ∧ Aside0 (makeG (l0.drop x.toNat) x a b a1 acc = (r1, r2)) ∧
      Aside0 (0 ≤ a ∧ a ≤ x ∧ 0 ≤ b ∧ b ≤ a1 ∧ (acc.length : Int) ≤ x) ∧
      Aside0 (Boxed w' (w.heap.size + 1) 3 (.int .i64 a) ∧ Boxed w' (w.heap.size + 1 + 1) 3 (.int .i64 b) ∧ Boxed w' w.heap.size 22 v ∧ w'.ownsRow (w.heap.size + 3) 54 4 v acc.length (cells4 acc) ∧ w.heap.size + 3 ≤ w'.heap.size) ∧
      Aside0 (Below w.heap.size w w'))
    case atStart =>
      refine ⟨0, 0, 0, [], .slice none 0 0, rfl, ⟨by omega⟩, H, ⟨by simp; omega⟩, ⟨?_, ?_, ?_, own_nil _ _ _ _, ?_⟩, ⟨?_⟩⟩
      · have := Boxed.new (w.alloc (.cells #[.slice none 0 0] 22)) 3 (.int .i64 0)
        rw [World.size_alloc] at this
        exact this.alloc _
      · have := Boxed.new ((w.alloc (.cells #[.slice none 0 0] 22)).alloc (.cells #[.int .i64 0] 3)) 3 (.int .i64 0)
        rw [World.size_alloc, World.size_alloc] at this
        exact this
      · exact ((Boxed.new w 22 _).alloc _).alloc _
      · simp
      · exact (((Below.refl _ w).alloc (Nat.le_refl _) _).alloc (by simp) _).alloc (by simp; omega) _
    case round =>
      clear H
      obtain ⟨x, a, b, acc, v, rfl, HX, HM, HR, HB, HW⟩ := hrel
      cases gk with
      | zero =>
        have hx : x = n := by have := HX.out; omega
        subst hx
        have q1 : decide ((n : Int) < (n : Int)) = false := by simp
        have hm : makeG (l0.drop (n : Int).toNat) n a b a1 acc = (reachL acc a b n a1, 0) := by
          rw [List.drop_of_length_le (by have := HN.out; omega)]
          rfl
        have hm2 := HM.out
        rw [hm] at hm2
        injection hm2 with hm2 hm3
        subst hm2
        subst hm3
        clear hm
        go_wp2_with fail
        refine (make1_calls n a1 a b (w.heap.size + 1) (w.heap.size + 1 + 1) w.heap.size (w.heap.size + 3) v acc _ HB.out.1 HB.out.2.1 HB.out.2.2.1 HB.out.2.2.2.1 (by omega) (by omega) (by omega) (by omega) (by omega) (by omega) HB.out.2.2.2.2 HR.out.1 HR.out.2.1 (by omega) HR.out.2.2.1 HR.out.2.2.2.1 hg2 (by have := HR.out.2.2.2.2; omega)).mono ?_
        rintro e w2 ⟨rfl, v', ga, gb, gl, go, gB⟩
        have HGO := Aside0.mk go
        have HGB := Aside0.mk (gB w.heap.size (by omega) (by omega) (by omega))
        have gcl := gl.cell
        have gfl := gl.frozen
        obtain ⟨Av, cv, rfl⟩ := own_slice go
        clear ga gb gl go gB
        go_wp2
        go_ret2
        exact ⟨_, rfl, R_of_own4 (own_weaken HGO.out (by omega)), HW.out.trans HGB.out⟩
      | succ k1 =>
        have p := HX.out.1
        have q : x < n := by have := HX.out; omega
        have q2 : decide (x < (n : Int)) = true := by simpa using q
        have hdr := drop_int l0 x p (by have := HN.out; omega)
        have hM := HM.out
        rw [hdr] at hM
        obtain ⟨ad, e, hx0⟩ := Kd.at_int HR0.out x p (by have := HN.out; omega)
        cases e
        have b0 := (HW.out.cell (World.block_lt_of_cell? w _ hx0)).trans hx0
        generalize rd l0 x = kx at b0 hM
        have W1 : Aside0 (wrap64 (x + 1) = x + 1) := ⟨by unfold wrap64; omega⟩
        have HX2 : Aside0 (0 ≤ x + 1 ∧ x + 1 + (k1 : Int) = n) := ⟨by have := HX.out; omega⟩
        have HB1 := HB.out.1
        have HB2 := HB.out.2.1
        have ca := HB1.cell
        have cb := HB2.cell
        clear hx0 hdr HM HX HB1 HB2
        by_cases hk1 : kx = -1
        · have HM2 : Aside0 (makeG (l0.drop (x + 1).toNat) (x + 1) a b a1 acc = (r1, r2)) := ⟨by rw [makeG, if_pos hk1] at hM; exact hM⟩
          have q3 : (kx == -1) = true := by simpa using hk1
          clear hM hk1
          replace p := eq_true p
          replace q := eq_true q
          go_wp2
          go_roundg k1
          case measure => omega
          case rel => exact ⟨_, a, b, acc, v, rfl, ⟨by rw [W1.out]; exact HX2.out⟩, ⟨by rw [W1.out]; exact HM2.out⟩, ⟨by rw [W1.out]; have := HR.out; omega⟩, HB, HW⟩
        · have q3 : (kx == -1) = false := by simpa using hk1
          by_cases hk2 : kx < b
          · have HM2 : Aside0 (([], 50) = (r1, r2)) := ⟨by rw [makeG, if_neg hk1, if_pos (.inl hk2)] at hM; exact hM⟩
            have q4 : decide (kx < b) = true := by simpa using hk2
            clear hM hk1 hk2
            replace p := eq_true p
            replace q := eq_true q
            go_wp2
            go_ret2
            have h2 := HM2.out
            injection h2 with h2 h3
            subst h2
            subst h3
            exact ⟨_, rfl, Kd.R_nil _ _ _ _ _, HW.out⟩
          · have q4 : decide (kx < b) = false := by simpa using hk2
            by_cases hk3 : a1 ≤ kx
            · have HM2 : Aside0 (([], 50) = (r1, r2)) := ⟨by rw [makeG, if_neg hk1, if_pos (.inr hk3)] at hM; exact hM⟩
              have q5 : decide (kx ≥ a1) = true := by simpa using hk3
              clear hM hk1 hk2 hk3
              replace p := eq_true p
              replace q := eq_true q
              go_wp2
              go_ret2
              have h2 := HM2.out
              injection h2 with h2 h3
              subst h2
              subst h3
              exact ⟨_, rfl, Kd.R_nil _ _ _ _ _, HW.out⟩
            · have q5 : decide (kx ≥ a1) = false := by simpa using hk3
              have HM2 : Aside0 (makeG (l0.drop (x + 1).toNat) (x + 1) (x + 1) (kx + 1) a1 (reachL acc a b x kx) = (r1, r2)) := ⟨by rw [makeG, if_neg hk1, if_neg (by omega)] at hM; exact hM⟩
              have hlen := reachL_length acc a b x kx
              have HK : Aside0 (b ≤ kx ∧ kx < a1 ∧ 0 ≤ kx) := ⟨by have := HR.out; omega⟩
              have W2 : Aside0 (wrap64 (kx + 1) = kx + 1) := ⟨by have := HK.out; unfold wrap64; omega⟩
              clear hM hk1 hk2 hk3
              have HP := Aside0.mk p
              have HQ := Aside0.mk q
              replace p := eq_true p
              replace q := eq_true q
              go_wp2_with fail
              refine (make1_calls x kx a b (w.heap.size + 1) (w.heap.size + 1 + 1) w.heap.size (w.heap.size + 3) v acc _ HB.out.1 HB.out.2.1 HB.out.2.2.1 HB.out.2.2.2.1 (by omega) (by omega) (by omega) (by omega) (by omega) (by omega) HB.out.2.2.2.2 HR.out.1 HR.out.2.1 (by have := HQ.out; omega) HR.out.2.2.1 HK.out.1 (by have := HK.out; omega) (by have := HR.out.2.2.2.2; have := HQ.out; omega)).mono ?_
              rintro e w2 ⟨rfl, v', ga, gb, gl, go, gB⟩
              rw [W2.out] at gb
              have gBB := gB w.heap.size (by omega) (by omega) (by omega)
              have HG := Aside0.mk (And.intro ga (And.intro gb (And.intro gl (And.intro go (Nat.le_trans HB.out.2.2.2.2 gBB.size)))))
              have HGB := Aside0.mk gBB
              clear ga gb gl go gB ca cb b0 gBB
              go_wp2
              go_roundg k1
              case measure => omega
              case rel => exact ⟨_, x + 1, kx + 1, _, v', rfl, ⟨by rw [W1.out]; exact HX2.out⟩, ⟨by rw [W1.out]; exact HM2.out⟩, ⟨by rw [W1.out]; have := HR.out; have := HK.out; have := HP.out; omega⟩, HG, ⟨HW.out.trans HGB.out⟩⟩
end Go.Proofs.Ytpkhfeeelkhkaaa.X
