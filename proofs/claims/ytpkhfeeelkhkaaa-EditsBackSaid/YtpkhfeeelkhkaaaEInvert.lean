/-
  The contract of edits.Invert: the two sides of every change changed about.
-/
import Derived.Test.YtpkhfeeelkhkaaaEClone
import Derived.Test.YtpkhfeeelkhkaaaERuns
namespace Go.Proofs.Ytpkhfeeelkhkaaa.X
open Go.RowKit Go.Proofs.YtpkhfeeelkhkaaaW.PrintWords Go.Proofs.YtpkhfeeelkhkaaaW.PrintLast Go.Proofs.YtpkhfeeelkhkaaaW.PrintMore
attribute [local go_sem] Oper.semAt_some
set_option linter.unusedVariables false
set_option linter.unusedSimpArgs false

def inv1 (c : S54) : S54 := ⟨c.f2, c.f3, c.f0, c.f1⟩
def edits_Invert.f (l0 : List S54) : Option (List S54) := if l0.length ≤ 4398046511104 then some (l0.map inv1) else none

/-- Changes as cells. -/
def cells4 : List S54 → List Value
  | [] => []
  | c :: l => .int .i64 c.f0 :: .int .i64 c.f1 :: .int .i64 c.f2 :: .int .i64 c.f3 :: cells4 l
theorem cells4_length : ∀ l : List S54, (cells4 l).length = l.length * 4
  | [] => rfl
  | c :: l => by simp only [cells4, List.length_cons, cells4_length l]; omega
theorem cells4_get : ∀ (l : List S54) (i : Nat) (c : S54), l[i]? = some c → (cells4 l)[i * 4]? = some (.int .i64 c.f0) ∧ (cells4 l)[i * 4 + 1]? = some (.int .i64 c.f1) ∧ (cells4 l)[i * 4 + 2]? = some (.int .i64 c.f2) ∧ (cells4 l)[i * 4 + 3]? = some (.int .i64 c.f3)
  | [], i, c, h => by simp at h
  | x :: l, 0, c, h => by
    have : x = c := by simpa using h
    subst this
    exact ⟨rfl, rfl, rfl, rfl⟩
  | x :: l, i + 1, c, h => by
    have := cells4_get l i c (by simpa using h)
    rw [show (i + 1) * 4 = i * 4 + 4 by omega]
    simpa [cells4] using this
theorem cells4_set : ∀ (l : List S54) (i : Nat) (c : S54), ((((cells4 l).set (i * 4) (.int .i64 c.f0)).set (i * 4 + 1) (.int .i64 c.f1)).set (i * 4 + 2) (.int .i64 c.f2)).set (i * 4 + 3) (.int .i64 c.f3) = cells4 (l.set i c)
  | [], i, c => by simp [cells4]
  | x :: l, 0, c => by simp [cells4]
  | x :: l, i + 1, c => by
    have := cells4_set l i c
    rw [show (i + 1) * 4 = i * 4 + 4 by omega]
    simpa [cells4] using this
theorem cells4_reps {R : S54 → List Value → Prop} (hR : ∀ c, R c [.int .i64 c.f0, .int .i64 c.f1, .int .i64 c.f2, .int .i64 c.f3]) (l : List S54) : Reps R 4 l (cells4 l) := by
  refine ⟨cells4_length l, fun j c hj => ?_⟩
  have h : ((cells4 l).drop (j * 4)).take 4 = [.int .i64 c.f0, .int .i64 c.f1, .int .i64 c.f2, .int .i64 c.f3] := by
    obtain ⟨g0, g1, g2, g3⟩ := cells4_get l j c hj
    apply List.ext_getElem?
    intro i
    rcases Nat.lt_or_ge i 4 with hi | hi
    · rw [List.getElem?_take, if_pos hi, List.getElem?_drop]
      match i, hi with
      | 0, _ => exact g0
      | 1, _ => exact g1
      | 2, _ => exact g2
      | 3, _ => exact g3
    · rw [List.getElem?_take, if_neg (by omega)]
      rw [List.getElem?_eq_none (by simpa using hi)]
  rw [h]
  exact hR c
theorem reps_cells4 {R : S54 → List Value → Prop} (hR : ∀ c cs, R c cs → cs = [.int .i64 c.f0, .int .i64 c.f1, .int .i64 c.f2, .int .i64 c.f3]) : ∀ (l : List S54) (cs : List Value), Reps R 4 l cs → cs = cells4 l
  | [], cs, h => List.length_eq_zero_iff.1 (by rw [h.1]; rfl)
  | c :: l, cs, h => by
    have h0 := hR c _ (h.2 0 c rfl)
    rw [Nat.zero_mul, List.drop_zero] at h0
    have h1 := reps_cells4 hR l (cs.drop 4) ⟨by rw [List.length_drop, h.1, List.length_cons]; omega, fun j p hj => by
      have := h.2 (j + 1) p (by simpa using hj)
      rw [List.drop_drop]
      rwa [show (j + 1) * 4 = 4 + j * 4 by omega] at this⟩
    rw [← List.take_append_drop 4 cs, h0, h1]
    rfl
theorem own4_of_R {w : World} {base : Nat} {ok : Nat → Prop} {v : Value} {l : List S54} (h : Kd.R k54 54 w base ok v l) : w.ownsRow base 54 4 v l.length (cells4 l) := by
  obtain ⟨_, inner, ho, hr⟩ := h
  rw [← reps_cells4 (fun c cs hc => k54_openM hc) l inner hr]
  exact ho
theorem R_of_own4 {w : World} {base : Nat} {v : Value} {l : List S54} (h : w.ownsRow base 54 4 v l.length (cells4 l)) : Kd.R k54 54 w base (fun _ => True) v l :=
  ⟨fun _ _ => trivial, cells4 l, h, cells4_reps (fun c => k54_mkM _ _ _ c) l⟩

/-- The cells of a change in a row of the call's own. -/
theorem own4_at {w : World} {base g n cap : Nat} {l : List S54} (h : w.ownsRow base 54 4 (.slice (some ⟨g, 0, none⟩) n cap) n (cells4 l)) {i : Nat} {c : S54} (hi : l[i]? = some c) :
    w.cell? ⟨g, i * 4, none⟩ = some (.int .i64 c.f0) ∧ w.cell? ⟨g, i * 4 + 1, none⟩ = some (.int .i64 c.f1) ∧ w.cell? ⟨g, i * 4 + 2, none⟩ = some (.int .i64 c.f2) ∧ w.cell? ⟨g, i * 4 + 3, none⟩ = some (.int .i64 c.f3) := by
  obtain ⟨g0, g1, g2, g3⟩ := cells4_get l i c hi
  have f := fun j v (hv : (cells4 l)[j]? = some v) => h.cells (g := g) rfl j v hv
  simp only [add_plain] at f
  exact ⟨f _ _ g0, f _ _ g1, f _ _ g2, f _ _ g3⟩
theorem own4_frozen {w : World} {base g n cap : Nat} {xs : List Value} (h : w.ownsRow base 54 4 (.slice (some ⟨g, 0, none⟩) n cap) n xs) (j : Nat) : w.frozen? ⟨g, j, none⟩ = false := by
  rcases h.2 with ⟨h', _⟩ | ⟨g', cap', cur, h', _, hh, _⟩
  · cases h'
  · have : g = g' := by injection h' with h'; injection h' with h'; injection h' with h'
    subst this
    simp [World.frozen?, hh]
/-- Putting a change into a row of the call's own. -/
theorem own4_put {w : World} {base g n cap : Nat} {l : List S54} (h : w.ownsRow base 54 4 (.slice (some ⟨g, 0, none⟩) n cap) n (cells4 l)) (i : Nat) (c : S54) :
    ((((w.setCell ⟨g, i * 4, none⟩ (.int .i64 c.f0)).setCell ⟨g, i * 4 + 1, none⟩ (.int .i64 c.f1)).setCell ⟨g, i * 4 + 2, none⟩ (.int .i64 c.f2)).setCell ⟨g, i * 4 + 3, none⟩ (.int .i64 c.f3)).ownsRow base 54 4 (.slice (some ⟨g, 0, none⟩) n cap) n (cells4 (l.set i c)) ∧
      w.grownBy ((((w.setCell ⟨g, i * 4, none⟩ (.int .i64 c.f0)).setCell ⟨g, i * 4 + 1, none⟩ (.int .i64 c.f1)).setCell ⟨g, i * 4 + 2, none⟩ (.int .i64 c.f2)).setCell ⟨g, i * 4 + 3, none⟩ (.int .i64 c.f3)) (some g) := by
  obtain ⟨s1, t1⟩ := h.stored (i * 4) (.int .i64 c.f0)
  obtain ⟨s2, t2⟩ := s1.stored (i * 4 + 1) (.int .i64 c.f1)
  obtain ⟨s3, t3⟩ := s2.stored (i * 4 + 2) (.int .i64 c.f2)
  obtain ⟨s4, t4⟩ := s3.stored (i * 4 + 3) (.int .i64 c.f3)
  rw [cells4_set] at s4
  exact ⟨s4, ((t1.trans t2).trans t3).trans t4⟩

/-- The four stores of a put, one behind the other. -/
theorem own4_steps {w : World} {base g n cap : Nat} {l : List S54} (h : w.ownsRow base 54 4 (.slice (some ⟨g, 0, none⟩) n cap) n (cells4 l)) {i : Nat} {c : S54} (hi : l[i]? = some c) (d : S54) :
    (w.setCell ⟨g, i * 4, none⟩ (.int .i64 d.f0)).cell? ⟨g, i * 4 + 1, none⟩ = some (.int .i64 c.f1) ∧
    ((w.setCell ⟨g, i * 4, none⟩ (.int .i64 d.f0)).setCell ⟨g, i * 4 + 1, none⟩ (.int .i64 d.f1)).cell? ⟨g, i * 4 + 2, none⟩ = some (.int .i64 c.f2) ∧
    (((w.setCell ⟨g, i * 4, none⟩ (.int .i64 d.f0)).setCell ⟨g, i * 4 + 1, none⟩ (.int .i64 d.f1)).setCell ⟨g, i * 4 + 2, none⟩ (.int .i64 d.f2)).cell? ⟨g, i * 4 + 3, none⟩ = some (.int .i64 c.f3) ∧
    (∀ j, w.frozen? ⟨g, j, none⟩ = false) ∧ (∀ j, (w.setCell ⟨g, i * 4, none⟩ (.int .i64 d.f0)).frozen? ⟨g, j, none⟩ = false) ∧
    (∀ j, ((w.setCell ⟨g, i * 4, none⟩ (.int .i64 d.f0)).setCell ⟨g, i * 4 + 1, none⟩ (.int .i64 d.f1)).frozen? ⟨g, j, none⟩ = false) ∧
    (∀ j, (((w.setCell ⟨g, i * 4, none⟩ (.int .i64 d.f0)).setCell ⟨g, i * 4 + 1, none⟩ (.int .i64 d.f1)).setCell ⟨g, i * 4 + 2, none⟩ (.int .i64 d.f2)).frozen? ⟨g, j, none⟩ = false) := by
  obtain ⟨g0, g1, g2, g3⟩ := cells4_get l i c hi
  obtain ⟨s1, t1⟩ := h.stored (i * 4) (.int .i64 d.f0)
  obtain ⟨s2, t2⟩ := s1.stored (i * 4 + 1) (.int .i64 d.f1)
  obtain ⟨s3, t3⟩ := s2.stored (i * 4 + 2) (.int .i64 d.f2)
  have f1 := s1.cells (g := g) rfl (i * 4 + 1) (.int .i64 c.f1) (by rw [List.getElem?_set_ne (by omega)]; exact g1)
  have f2 := s2.cells (g := g) rfl (i * 4 + 2) (.int .i64 c.f2) (by rw [List.getElem?_set_ne (by omega), List.getElem?_set_ne (by omega)]; exact g2)
  have f3 := s3.cells (g := g) rfl (i * 4 + 3) (.int .i64 c.f3) (by rw [List.getElem?_set_ne (by omega), List.getElem?_set_ne (by omega), List.getElem?_set_ne (by omega)]; exact g3)
  rw [add_plain] at f1 f2 f3
  exact ⟨f1, f2, f3, own4_frozen h, own4_frozen s1, own4_frozen s2, own4_frozen s3⟩

/-- What has been changed about so far. -/
def invTo (l : List S54) (i : Nat) : List S54 := (l.take i).map inv1 ++ l.drop i
theorem invTo_length (l : List S54) (i : Nat) : (invTo l i).length = l.length := by simp [invTo]; omega
theorem invTo_get (l : List S54) (i : Nat) (h : i < l.length) : (invTo l i)[i]? = some l[i] := by
  unfold invTo
  rw [List.getElem?_append_right (by simp; omega)]
  simp [show i - min i l.length = 0 by omega, List.getElem?_eq_getElem h]
theorem invTo_set (l : List S54) (i : Nat) (h : i < l.length) : (invTo l i).set i (inv1 l[i]) = invTo l (i + 1) := by
  unfold invTo
  rw [List.set_append_right _ _ (by simp; omega), List.length_map, List.length_take, show i - min i l.length = 0 by omega, List.drop_eq_getElem_cons h, List.set_cons_zero, List.take_add_one, List.getElem?_eq_getElem h, List.map_append, List.append_assoc]
  rfl

set_option maxHeartbeats 2000000 in
set_option maxRecDepth 100000 in
theorem invert_calls (A0 : Option Addr) (c0 : Nat) (l0 : List S54) (w : World) (hr0 : Kd.C k54 w A0 l0.length l0) (hc0 : l0.length ≤ c0) (hg : l0.length ≤ 4398046511104) :
    Calls Try.prog 19 #[.slice A0 l0.length c0] w fun e w' => ∃ v0_ : Value, e = .returned v0_ ∧ Kd.R k54 54 w' w.heap.size (fun _ => True) v0_ (l0.map inv1) ∧ Below w.heap.size w w' := by
  have hu54 := Try.underlying54
  have HR0 := Aside0.mk hr0
  have HC0 := Aside0.mk hc0
  have HG := Aside0.mk hg
  clear hr0 hc0 hg
  go_enter Try.func19, Try.ntmps19
  go_wp2_with fail
  refine (clone_calls A0 c0 l0 w HR0.out HC0.out HG.out).mono ?_
  rintro e w1 ⟨v, rfl, hR, hB⟩
  have ho := own4_of_R hR
  obtain ⟨n, hn⟩ : ∃ n, l0.length = n := ⟨_, rfl⟩
  have HN := Aside0.mk hn
  rw [hn] at ho
  obtain ⟨A, cv, rfl⟩ := own_slice ho
  have HO : Aside0 (w1.ownsRow w.heap.size 54 4 (.slice A n cv) n (cells4 (invTo l0 (0 : Int).toNat))) := ⟨by simpa [invTo] using ho⟩
  have HB := Aside0.mk hB
  have hg : (n : Int) ≤ 4398046511104 := by have := HG.out; omega
  clear hR hB ho hn HR0 HC0 HG
  go_wp2
  go_loopg [4, 5, 10] n (fun kq v4 v5 v10 w' => ∃ x : Int, v10 = .int .i64 x ∧ Aside0 (0 ≤ x ∧ x + kq = n) ∧ Aside0 (w'.ownsRow w.heap.size 54 4 (.slice A n cv) n (cells4 (invTo l0 x.toNat))) ∧ Aside0 (Below w.heap.size w w'))
  case atStart => exact ⟨0, rfl, ⟨by omega⟩, HO, HB⟩
  case round =>
    clear HO HB
    obtain ⟨x, rfl, HX, HO, HB⟩ := hrel
    cases gk with
    | zero =>
      have q1 : decide (x < (n : Int)) = false := by have := HX.out; simp; omega
      have hxn : x.toNat = n := by have := HX.out; omega
      go_wp2
      go_ret
      have ho := HO.out
      have hN := HN.out
      have e : invTo l0 x.toNat = l0.map inv1 := by simp [invTo, hxn, ← hN]
      rw [e] at ho
      exact ⟨_, rfl, R_of_own4 (by rw [List.length_map, hN]; exact ho), HB.out⟩
    | succ k1 =>
      have p := HX.out.1
      have q : x < n := by have := HX.out; omega
      have q1 : decide (x < (n : Int)) = true := by simpa using q
      have hil : x.toNat < l0.length := by have := HN.out; omega
      obtain ⟨c, hc⟩ : ∃ c, l0[x.toNat] = c := ⟨_, rfl⟩
      have HCC := Aside0.mk hc
      have hget := invTo_get l0 x.toNat hil
      rw [hc] at hget
      obtain ⟨ad, rfl, had, b0, b1, b2, b3⟩ : ∃ ad : Addr, A = some ad ∧ (∃ g, ad = ⟨g, 0, none⟩) ∧ wr.cell? (ad.add (x.toNat * 4)) = some (.int .i64 c.f0) ∧ wr.cell? ⟨(ad.add (x.toNat * 4)).block, (ad.add (x.toNat * 4)).off + 1, none⟩ = some (.int .i64 c.f1) ∧
          wr.cell? ⟨(ad.add (x.toNat * 4)).block, (ad.add (x.toNat * 4)).off + 2, none⟩ = some (.int .i64 c.f2) ∧ wr.cell? ⟨(ad.add (x.toNat * 4)).block, (ad.add (x.toNat * 4)).off + 3, none⟩ = some (.int .i64 c.f3) := by
        rcases HO.out.2 with ⟨h', hz⟩ | ⟨g, cap', cur, h', _⟩
        · injection h' with h1 h2
          omega
        · injection h' with h1 h2 h3
          subst h1
          subst h3
          obtain ⟨g0, g1, g2, g3⟩ := own4_at HO.out hget
          refine ⟨⟨g, 0, none⟩, rfl, ⟨g, rfl⟩, ?_, ?_, ?_, ?_⟩ <;> rw [add_plain] <;> assumption
      have HAD := Aside0.mk had
      obtain ⟨ob, hob⟩ : ∃ ob, Obj.cells #[.int .i64 c.f0, .int .i64 c.f1, .int .i64 c.f2, .int .i64 c.f3] 54 = ob := ⟨_, rfl⟩
      have hoa : (wr.alloc (.cells #[.int .i64 c.f0, .int .i64 c.f1, .int .i64 c.f2, .int .i64 c.f3] 54)).ownsRow w.heap.size 54 4 (.slice (some ad) n cv) n (cells4 (invTo l0 x.toNat)) := HO.out.alloc _
      have HOA := Aside0.mk hoa
      have HGET := Aside0.mk hget
      have hst : (wr.alloc (.cells #[.int .i64 c.f0, .int .i64 c.f1, .int .i64 c.f2, .int .i64 c.f3] 54)).cell? (ad.add (x.toNat * 4)) = some (.int .i64 c.f0) ∧ (wr.alloc (.cells #[.int .i64 c.f0, .int .i64 c.f1, .int .i64 c.f2, .int .i64 c.f3] 54)).frozen? (ad.add (x.toNat * 4)) = false ∧
          ((wr.alloc (.cells #[.int .i64 c.f0, .int .i64 c.f1, .int .i64 c.f2, .int .i64 c.f3] 54)).setCell (ad.add (x.toNat * 4)) (.int .i64 c.f2)).cell? ⟨(ad.add (x.toNat * 4)).block, (ad.add (x.toNat * 4)).off + 1, none⟩ = some (.int .i64 c.f1) ∧
          ((wr.alloc (.cells #[.int .i64 c.f0, .int .i64 c.f1, .int .i64 c.f2, .int .i64 c.f3] 54)).setCell (ad.add (x.toNat * 4)) (.int .i64 c.f2)).frozen? ⟨(ad.add (x.toNat * 4)).block, (ad.add (x.toNat * 4)).off + 1, none⟩ = false ∧
          (((wr.alloc (.cells #[.int .i64 c.f0, .int .i64 c.f1, .int .i64 c.f2, .int .i64 c.f3] 54)).setCell (ad.add (x.toNat * 4)) (.int .i64 c.f2)).setCell ⟨(ad.add (x.toNat * 4)).block, (ad.add (x.toNat * 4)).off + 1, none⟩ (.int .i64 c.f3)).cell? ⟨(ad.add (x.toNat * 4)).block, (ad.add (x.toNat * 4)).off + 2, none⟩ = some (.int .i64 c.f2) ∧
          (((wr.alloc (.cells #[.int .i64 c.f0, .int .i64 c.f1, .int .i64 c.f2, .int .i64 c.f3] 54)).setCell (ad.add (x.toNat * 4)) (.int .i64 c.f2)).setCell ⟨(ad.add (x.toNat * 4)).block, (ad.add (x.toNat * 4)).off + 1, none⟩ (.int .i64 c.f3)).frozen? ⟨(ad.add (x.toNat * 4)).block, (ad.add (x.toNat * 4)).off + 2, none⟩ = false ∧
          ((((wr.alloc (.cells #[.int .i64 c.f0, .int .i64 c.f1, .int .i64 c.f2, .int .i64 c.f3] 54)).setCell (ad.add (x.toNat * 4)) (.int .i64 c.f2)).setCell ⟨(ad.add (x.toNat * 4)).block, (ad.add (x.toNat * 4)).off + 1, none⟩ (.int .i64 c.f3)).setCell ⟨(ad.add (x.toNat * 4)).block, (ad.add (x.toNat * 4)).off + 2, none⟩ (.int .i64 c.f0)).cell? ⟨(ad.add (x.toNat * 4)).block, (ad.add (x.toNat * 4)).off + 3, none⟩ = some (.int .i64 c.f3) ∧
          ((((wr.alloc (.cells #[.int .i64 c.f0, .int .i64 c.f1, .int .i64 c.f2, .int .i64 c.f3] 54)).setCell (ad.add (x.toNat * 4)) (.int .i64 c.f2)).setCell ⟨(ad.add (x.toNat * 4)).block, (ad.add (x.toNat * 4)).off + 1, none⟩ (.int .i64 c.f3)).setCell ⟨(ad.add (x.toNat * 4)).block, (ad.add (x.toNat * 4)).off + 2, none⟩ (.int .i64 c.f0)).frozen? ⟨(ad.add (x.toNat * 4)).block, (ad.add (x.toNat * 4)).off + 3, none⟩ = false := by
        obtain ⟨g, rfl⟩ := had
        rw [add_plain]
        obtain ⟨t1, t2, t3, t4, t5, t6, t7⟩ := own4_steps hoa hget (inv1 c)
        exact ⟨(own4_at hoa hget).1, t4 _, t1, t5 _, t2, t6 _, t3, t7 _⟩
      obtain ⟨t0, t1, t2, t3, t4, t5, t6, t7⟩ := hst
      have HS := Aside0.mk (invTo_set l0 x.toNat hil)
      have hlt : w.heap.size ≤ wr.heap.size := HB.out.size
      have W1 : Aside0 (wrap64 (x + 1) = x + 1) := ⟨by unfold wrap64; omega⟩
      have HX2 : Aside0 (0 ≤ x + 1 ∧ x + 1 + k1 = n) := ⟨by have := HX.out; omega⟩
      clear hget hc had HX hoa hob
      replace p := eq_true p
      replace q := eq_true q
      go_wp2
      go_roundg k1
      case measure => omega
      case rel =>
        refine ⟨_, rfl, ⟨by rw [W1.out]; exact HX2.out⟩, ⟨?_⟩, ⟨?_⟩⟩
        · obtain ⟨g, rfl⟩ := HAD.out
          rw [W1.out, show (x + 1).toNat = x.toNat + 1 by have := HX2.out; have := p; simp at *; omega, ← HS.out, HCC.out]
          have := (own4_put HOA.out x.toNat (inv1 c)).1
          rw [add_plain]
          exact this
        · obtain ⟨g, rfl⟩ := HAD.out
          have hp := (own4_put HOA.out x.toNat (inv1 c)).2
          rw [add_plain]
          have hgb := own_base HOA.out g rfl
          have hba := HB.out.alloc hlt (.cells #[.int .i64 c.f0, .int .i64 c.f1, .int .i64 c.f2, .int .i64 c.f3] 54)
          exact hba.trans ⟨hp.os, hp.tape, hp.output, hp.size, fun i hi => hp.block i (by have := hba.size; omega) (fun e => by injection e with e; omega)⟩
theorem edits_Invert.calls (A0 : Option Addr) (c0 : Nat) (l0 : List S54) (r : List S54) (w : World) (hr0 : Kd.C k54 w A0 l0.length l0) (hc0 : l0.length ≤ c0) (h : edits_Invert.f l0 = some r) :
    Calls Try.prog 19 #[.slice A0 l0.length c0] w fun e w' => ∃ v0_ : Value, e = .returned v0_ ∧ Kd.R k54 54 w' w.heap.size (fun _ => True) v0_ r ∧ Below w.heap.size w w' := by
  unfold edits_Invert.f at h
  split at h
  · rename_i hg
    injection h with h
    subst h
    exact invert_calls A0 c0 l0 w hr0 hc0 hg
  · cases h
end Go.Proofs.Ytpkhfeeelkhkaaa.X
