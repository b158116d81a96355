/-
  The contract of edits.Apply: what a right script makes of two texts, else the error; the texts stay as they are.
-/
import Derived.Test.YtpkhfeeelkhkaaaEKeep
namespace Go.Proofs.Ytpkhfeeelkhkaaa.X
open Go.RowKit Go.Proofs.YtpkhfeeelkhkaaaW.PrintWords Go.Proofs.YtpkhfeeelkhkaaaW.PrintLast Go.Proofs.YtpkhfeeelkhkaaaW.PrintMore Go.Proofs.YtpkhfeeelkhkaaaB
attribute [local go_sem] Oper.semAt_some
set_option linter.unusedVariables false
set_option linter.unusedSimpArgs false

/-- What a piece makes. -/
def apply1 (a b : List ByteArray) (p : S54 × Bool) : List ByteArray := if p.2 = true then (a.drop p.1.f0.toNat).take p.1.f1.toNat else (b.drop p.1.f2.toNat).take p.1.f3.toNat
def applyOf (a b : List ByteArray) (ps : List (S54 × Bool)) : List ByteArray := ps.flatMap (apply1 a b)
def edits_Apply.f (l0 : List S54) (a b : List ByteArray) : Option (List ByteArray × Int) :=
  if l0.length ≤ 4398046511104 ∧ a.length ≤ 8796093022208 ∧ b.length ≤ 8796093022208 then
    (if chk l0 a.length b.length = 0 then some (applyOf a b (pieces l0 a.length 0 0), 0) else some ([], chk l0 a.length b.length))
  else none
theorem applyOf_append (a b : List ByteArray) (xs ys : List (S54 × Bool)) : applyOf a b (xs ++ ys) = applyOf a b xs ++ applyOf a b ys := List.flatMap_append
theorem applyOf_succ (a b : List ByteArray) {ps : List (S54 × Bool)} {k : Nat} {p : S54 × Bool} (h : ps[k]? = some p) : applyOf a b (ps.take (k + 1)) = applyOf a b (ps.take k) ++ apply1 a b p := by
  rw [take_succ h, applyOf_append]
  simp [applyOf]
theorem apply1_length {a b : List ByteArray} {p : S54 × Bool} (h : OkP a.length b.length p) : ((apply1 a b p).length : Int) = p.1.f3 := by
  obtain ⟨g0, g1, g2, g3, g4, g5, g6⟩ := h
  unfold apply1
  split
  · rename_i hp
    rw [List.length_take, List.length_drop, g6 hp]
    omega
  · rw [List.length_take, List.length_drop]
    omega
theorem applyOf_length {a b : List ByteArray} : ∀ {ps : List (S54 × Bool)}, (∀ p ∈ ps, OkP a.length b.length p) → ((applyOf a b ps).length : Int) = lenB ps
  | [], _ => by simp [applyOf, lenB]
  | p :: ps, h => by
    rw [lenB_cons, show applyOf a b (p :: ps) = apply1 a b p ++ applyOf a b ps from rfl, List.length_append]
    have h1 := apply1_length (h p List.mem_cons_self)
    have h2 := applyOf_length (fun q hq => h q (List.mem_cons_of_mem _ hq))
    omega
theorem applyOf_take_le {l : List S54} {a b : List ByteArray} (R : Right l a.length b.length 0 0) (k : Nat) : ((applyOf a b ((pieces l a.length 0 0).take k)).length : Int) ≤ b.length := by
  rw [applyOf_length (fun p hp => R.ok p (List.mem_of_mem_take hp))]
  have := lenB_take R.ok k
  have := R.lenB
  omega

/-- All that lay when the loop began lies, one block aside. -/
def OldKept (n₀ bo : Nat) (A B : World) : Prop := ∀ i, i < n₀ → i ≠ bo → B.heap[i]? = A.heap[i]?
theorem ownFrom_old {β : Type} (n₀ bo : Nat) (A : World) (hs : n₀ ≤ A.heap.size) : OwnFrom n₀ (fun (_ : β) W => n₀ ≤ W.heap.size ∧ OldKept n₀ bo A W) := fun s W W' row h hg hr =>
  ⟨Nat.le_trans h.1 hg.size, fun i hi hb => (hg.block i (by have := h.1; omega) (fun e => by have := (hr i e.symm).1; omega)).trans (h.2 i hi hb)⟩
theorem cell_old {n₀ bo : Nat} {A B : World} (h : OldKept n₀ bo A B) {p : Addr} (hp : p.block < n₀) (hb : p.block ≠ bo) : B.cell? p = A.cell? p := cell_of_heap (h _ hp hb)
theorem add_block (a : Addr) (k : Nat) : (a.add k).block = a.block := by unfold Addr.add; split <;> rfl
/-- Texts that were read are read still. -/
theorem reads_old {n₀ bo : Nat} {A B : World} (h : OldKept n₀ bo A B) {A1 : Option Addr} {xs : List ByteArray} (hC : Kd.C Kd.string A A1 xs.length xs) (hA : ∀ ad, A1 = some ad → 0 < xs.length → ad.block < n₀ ∧ ad.block ≠ bo) : Kd.C Kd.string B A1 xs.length xs := by
  refine ⟨hC.1, hC.2.1, fun hn => ?_⟩
  obtain ⟨ad, e, hc⟩ := hC.2.2 hn
  obtain ⟨h1, h2⟩ := hA ad e hn
  refine ⟨ad, e, fun j p hj => ?_⟩
  obtain ⟨c, hs, hr, hcell⟩ := hc j p hj
  exact ⟨c, hs, hr, fun i u hu => (cell_old h (p := ad.add (j * 1 + i)) (by rw [add_block]; exact h1) (by rw [add_block]; exact h2)).trans (hcell i u hu)⟩
theorem reads_block {W : World} {A1 : Option Addr} {xs : List ByteArray} (hC : Kd.C Kd.string W A1 xs.length xs) : ∀ ad, A1 = some ad → 0 < xs.length → ad.block < W.heap.size := by
  intro ad e h
  obtain ⟨ad', e', hx⟩ := Kd.at_string hC 0 (by omega) (by omega)
  rw [e] at e'
  injection e' with e'
  subst e'
  have := World.block_lt_of_cell? W _ hx
  rwa [add_block] at this

/-- A cut of texts that are read. -/
theorem cut_reads {W : World} {A : Option Addr} {xs : List ByteArray} {c : Nat} (hC : Kd.C Kd.string W A xs.length xs) (hc : xs.length ≤ c) (lo cnt : Int) (h0 : 0 ≤ lo) (h1 : 0 ≤ cnt) (h2 : lo + cnt ≤ xs.length) :
    Kd.C Kd.string W (if c = lo.toNat then A else Option.map (fun x => x.add lo.toNat) A) ((lo + cnt).toNat - lo.toNat) ((xs.drop lo.toNat).take cnt.toNat) ∧ ((lo + cnt).toNat - lo.toNat : Nat) = cnt := by
  have hl : ((xs.drop lo.toNat).take cnt.toNat).length = (lo + cnt).toNat - lo.toNat := by rw [List.length_take, List.length_drop]; omega
  have h := Kd.C_take (m := cnt.toNat) (Kd.C_drop (m := lo.toNat) (c := c) hC (by omega) hc) (by rw [List.length_drop]; omega)
  rw [hl] at h
  have e : Kd.string.sz = 1 := rfl
  rw [e, Nat.mul_one] at h
  exact ⟨h, by omega⟩

/-- The temporaries behind the loop's assignment. -/
def applyAct (A0 Aa Ab : Option Addr) (n0 c0 na ca nb cb : Nat) (s0 s B : Nat) (p : S54 × Bool) : Act :=
  { tmps :=
      #[.slice A0 n0 c0, .slice Aa na ca, .slice Ab nb cb, undef, .pointer (some ⟨s0, 0, none⟩), .pointer (some ⟨s0 + 1, 0, none⟩), .slice none 0 0, .int .i64 0, .int .i64 0, .pointer (some ⟨s, 0, none⟩), .pointer (some ⟨B, 0, none⟩), .bool p.2,
        .slice A0 n0 c0, .slice Aa na ca, .int .i64 na, .slice Ab nb cb, .int .i64 nb, .int .i64 0, .int .i64 0, .bool false, undef, .slice A0 n0 c0, .slice Aa na ca, .int .i64 na, .func (.func 35) #[] #[.pointer (some ⟨s + 1, 0, none⟩), .pointer (some ⟨s + 1 + 1, 0, none⟩)],
        .agg #[.int .i64 p.1.f0, .int .i64 p.1.f1, .int .i64 p.1.f2, .int .i64 p.1.f3], .bool p.2, undef, undef, undef, undef, undef, undef, undef, undef, undef, undef, undef, undef, undef, undef, undef, undef, undef, undef, undef, undef, undef, undef, undef, undef],
    defers := [] }

set_option maxRecDepth 100000 in
set_option maxHeartbeats 2000000 in
theorem apply_in (n : Nat) (hn : 6 ≤ n) (A0 Aa Ab : Option Addr) (c0 ca cb : Nat) (l0 : List S54) (a b : List ByteArray) (r1 : List ByteArray) (r2 : Int) (w : World) (hr0 : Kd.C k54 w A0 l0.length l0) (hc0 : l0.length ≤ c0)
    (hra : Kd.C Kd.string w Aa a.length a) (hca : a.length ≤ ca) (hrb : Kd.C Kd.string w Ab b.length b) (hcb : b.length ≤ cb) (h : edits_Apply.f l0 a b = some (r1, r2)) :
    CallsIn Fence.wide n Try.prog 9 #[.slice A0 l0.length c0, .slice Aa a.length ca, .slice Ab b.length cb] w fun e w' => ∃ v0_ : Value, e = .returned (.tuple #[v0_, .int .i64 r2]) ∧ Kd.R Kd.string 9 w' w.heap.size (fun _ => True) v0_ r1 ∧ Below w.heap.size w w' := by
  have h1 : 1 ≤ n := by omega
  have hu54 := Try.underlying54
  unfold edits_Apply.f at h
  split at h
  rotate_left
  · cases h
  rename_i hg
  obtain ⟨hg1, hg2, hg3⟩ := hg
  have HR0 := Aside0.mk hr0
  have HC0 := Aside0.mk hc0
  have HRA := Aside0.mk hra
  have HRB := Aside0.mk hrb
  have HCA := Aside0.mk hca
  have HCB := Aside0.mk hcb
  have HCK := Aside0.mk (check_f l0 (by omega) a.length b.length (by omega) (by omega))
  clear hr0 hc0 hra hrb hca hcb
  obtain ⟨wB, hwB⟩ : ∃ wB, (w.alloc (.cells #[.slice Aa a.length ca] 23)).alloc (.cells #[.slice Ab b.length cb] 23) = wB := ⟨_, rfl⟩
  have HBB : Aside0 (Below w.heap.size w wB) := ⟨by rw [← hwB]; exact ((Below.refl _ w).alloc (Nat.le_refl _) _).alloc (by simp) _⟩
  have hsB : wB.heap.size = w.heap.size + 2 := by rw [← hwB]; simp
  have HXA : Aside0 (Boxed wB w.heap.size 23 (.slice Aa a.length ca)) := ⟨by rw [← hwB]; exact (Boxed.new w 23 _).alloc _⟩
  have HXB : Aside0 (Boxed wB (w.heap.size + 1) 23 (.slice Ab b.length cb)) := ⟨by
    have := Boxed.new (w.alloc (.cells #[.slice Aa a.length ca] 23)) 23 (.slice Ab b.length cb)
    rw [World.size_alloc] at this
    rw [← hwB]; exact this⟩
  have hxa := HXA.out.cell
  have hxb := HXB.out.cell
  by_cases hck : chk l0 a.length b.length = 0
  · rw [if_pos hck] at h
    injection h with h
    injection h with hr1 hr2
    subst hr2
    rw [hck] at HCK
    have R := Aside0.mk (right_of_chk a.length b.length l0 true 0 0 (by omega) (by omega) hck)
    have H1 := Aside0.mk hr1
    clear hr1 hck
    refine callsIn_of_wp_marks Try.func9 rfl trivial ?_ rfl
    simp only [Try.ntmps9, List.size_toArray, List.length_cons, List.length_nil, Nat.reduceAdd, Nat.reduceSub, Array.replicate_succ, Array.replicate_zero, List.push_toArray, List.append_toArray, List.nil_append, List.cons_append]
    gi_wp2_with fail
    refine ⟨trivial, ?_⟩
    refine (calls_wide (ro := none) (edits_Check.calls (2 * l0.length + 1) _ _ l0 a.length b.length 0 _ (Kd.C_below HR0.out HBB.out) HC0.out HCK.out)).mono ?_
    rintro e w1 ⟨rfl, hb1⟩
    have HB1 := Aside0.mk hb1
    have hxa1 := (hb1.cell (p := ⟨w.heap.size, 0, none⟩) (by rw [hsB]; show w.heap.size < _; omega)).trans hxa
    clear hb1
    have hxa2 : (w1.alloc (.cells #[.slice none 0 0] 23)).cell? ⟨w.heap.size, 0, none⟩ = some (.slice Aa a.length ca) := (((Below.refl w1.heap.size w1).alloc (Nat.le_refl _) _).cell (p := ⟨w.heap.size, 0, none⟩) (by have := HB1.out.size; show w.heap.size < _; omega)).trans hxa1
    gi_wp2_with fail
    refine ⟨trivial, ?_⟩
    refine (runs_in _ _ _ _ _ _).mono ?_
    rintro e w2 ⟨rfl, rfl⟩
    gi_wp2_with fail
    obtain ⟨W0, hW0⟩ : ∃ W0, ((w1.alloc (.cells #[.slice none 0 0] 23)).alloc (.cells #[.slice A0 l0.length c0] 22)).alloc (.cells #[.int .i64 a.length] 3) = W0 := ⟨_, rfl⟩
    rw [hW0]
    have hs0 : W0.heap.size = w1.heap.size + 3 := by rw [← hW0]; simp
    have hs1 : wB.heap.size ≤ w1.heap.size := HB1.out.size
    have hB0 : Below w1.heap.size w1 W0 := by rw [← hW0]; exact (((Below.refl _ w1).alloc (Nat.le_refl _) _).alloc (by simp) _).alloc (by simp; omega) _
    have bO : Boxed W0 w1.heap.size 23 (.slice none 0 0) := by rw [← hW0]; exact ((Boxed.new w1 23 _).alloc _).alloc _
    have bL : Boxed W0 (w1.heap.size + 1) 22 (.slice A0 l0.length c0) := by
      have := Boxed.new (w1.alloc (.cells #[.slice none 0 0] 23)) 22 (.slice A0 l0.length c0)
      rw [World.size_alloc] at this
      rw [← hW0]; exact this.alloc _
    have bN : Boxed W0 (w1.heap.size + 2) 3 (.int .i64 a.length) := by
      have := Boxed.new ((w1.alloc (.cells #[.slice none 0 0] 23)).alloc (.cells #[.slice A0 l0.length c0] 22)) 3 (.int .i64 a.length)
      rw [World.size_alloc, World.size_alloc] at this
      rw [← hW0]; exact this
    have hB2 : Below wB.heap.size wB W0 := HB1.out.trans (hB0.mono hs1)
    have hBw : Below w.heap.size w W0 := HBB.out.trans (hB2.mono (by omega))
    have hC1 := Kd.C_below (Kd.C_below HR0.out HBB.out) HB1.out
    have hA1 : ∀ ad, A0 = some ad → 0 < l0.length → ad.block < w1.heap.size := by
      intro ad e h
      obtain ⟨ad', e', hx, _⟩ := at_T54 hC1 0 (by omega) (by omega)
      rw [e] at e'
      injection e' with e'
      subst e'
      have := World.block_lt_of_cell? w1 _ hx
      rwa [show (ad.add ((0 : Int).toNat * 4)).block = ad.block from by unfold Addr.add; split <;> rfl] at this
    have HCa := Aside0.mk (Kd.C_below HRA.out hBw)
    have HCb := Aside0.mk (Kd.C_below HRB.out hBw)
    have HAa : Aside0 (∀ ad, Aa = some ad → 0 < a.length → ad.block < W0.heap.size ∧ ad.block ≠ w1.heap.size) := ⟨fun ad e h => by have := reads_block HRA.out ad e h; omega⟩
    have HAb : Aside0 (∀ ad, Ab = some ad → 0 < b.length → ad.block < W0.heap.size ∧ ad.block ≠ w1.heap.size) := ⟨fun ad e h => by have := reads_block HRB.out ad e h; omega⟩
    have hxa0 : W0.cell? ⟨w.heap.size, 0, none⟩ = some (.slice Aa a.length ca) := (hB0.cell (p := ⟨w.heap.size, 0, none⟩) (by show w.heap.size < _; omega)).trans hxa1
    have hxb0 : W0.cell? ⟨w.heap.size + 1, 0, none⟩ = some (.slice Ab b.length cb) := (hB2.cell (p := ⟨w.heap.size + 1, 0, none⟩) (by show w.heap.size + 1 < _; omega)).trans hxb
    have hn0 : (0 : Int) ≤ a.length := by omega
    clear hW0
    refine wpIn_rangeFunc_next rfl h1 (gf := 35) (lb := #[.pointer (some ⟨w1.heap.size + 1, 0, none⟩), .pointer (some ⟨w1.heap.size + 2, 0, none⟩)]) rfl trivial (enters_of Try.func35 (by kernel_rfl) rfl)
      (runs_next (n - 1) (by omega) (w1.heap.size + 1) (w1.heap.size + 2) w1.heap.size A0 c0 l0 a.length hn0 (by omega) R.out.chg W0 bL.cell (by omega) bN.cell (by omega) (Kd.C_below hC1 hB0) (fun ad e h => ⟨by have := hA1 ad e h; omega, by have := hA1 ad e h; omega⟩))
      (fun h k => h.trans k) ?hKb (Below.refl _ _) ?hps
      (fun k W => (∃ v, Boxed W w1.heap.size 23 v ∧ W.ownsRow W0.heap.size 9 1 v (applyOf a b ((pieces l0 a.length 0 0).take k)).length (encs Value.string (applyOf a b ((pieces l0 a.length 0 0).take k))) ∧ True) ∧ Below w.heap.size w W ∧ (W0.heap.size ≤ W.heap.size ∧ OldKept W0.heap.size w1.heap.size W0 W))
      (OwnFrom.and (Own.from (holdsRow_own W0.heap.size w1.heap.size 23 9 1 (fun k => (applyOf a b ((pieces l0 a.length 0 0).take k)).length) (fun k => encs Value.string (applyOf a b ((pieces l0 a.length 0 0).take k))) (fun _ _ => True)) _) (OwnFrom.and (ownFrom_below (Nat.le_refl _) hBw.size) (ownFrom_old _ _ _ (Nat.le_refl _))))
      ⟨⟨_, bO, own_nil _ _ _ _, trivial⟩, hBw, Nat.le_refl _, fun _ _ _ => rfl⟩
      (fun (k : Nat) (a' : Act) (W : World) => ∃ (p : S54 × Bool) (B : Nat), (pieces l0 a.length 0 0)[k]? = some p ∧ W.heap[B]? = some (Obj.cells #[.int .i64 p.1.f0, .int .i64 p.1.f1, .int .i64 p.1.f2, .int .i64 p.1.f3] 54 (0, 0)) ∧ a' = applyAct A0 Aa Ab l0.length c0 a.length ca b.length cb w.heap.size w1.heap.size B p) ?hAx ?assign ?body ?done
    case assign =>
      intro l k x W K hx hI hK
      rw [List.getElem?_map] at hx
      obtain ⟨p, hp, rfl⟩ := Option.map_eq_some_iff.1 hx
      dsimp only [encP]
      gi_wp2
      refine hK _ _ ((KeepsOthers.alloc _ _).from _) ((Kept54.refl _ _ _).alloc ?_ _) ⟨?_, ?_, ?_, ?_⟩ ⟨p, W.heap.size, hp, World.alloc_heap_new _ _, rfl⟩
      · exact hI.2.2.1
      · obtain ⟨v, h1, h2, h3⟩ := hI.1
        exact ⟨v, h1.alloc _, h2.alloc _, h3⟩
      · exact hI.2.1.alloc hI.2.1.size _
      · have := hI.2.2.1
        simp; omega
      · exact fun i hi hb => (Below.heap_alloc _ _ _ (by have := hI.2.2.1; omega)).trans (hI.2.2.2 i hi hb)
    case hKb =>
      intro W l o o' hl h hc _
      refine ⟨by simp, fun i hi _ => World.putObj_heap_other (by omega), fun i cs fr hi => (World.putObj_heap_other (fun e => ?_)).trans hi⟩
      subst e
      rw [h] at hi
      injection hi with hi
      subst hi
      cases hc
    case hps =>
      intro k x hx
      rw [List.getElem?_map] at hx
      obtain ⟨p, hp, rfl⟩ := Option.map_eq_some_iff.1 hx
      rfl
    case hAx =>
      intro k a' s A B row hs hg hr
      obtain ⟨p, b, hp, hb, ha⟩ := hs
      exact ⟨p, b, hp, (grownBy_keeps_cells hg (fun r e => (hr r e).2) hb rfl).trans hb, ha⟩
    case body =>
      rintro l k x a' W hx ⟨⟨v, hv, ho, _⟩, hb2, hsz, hold⟩ ⟨p, bx, hp, hbb, rfl⟩
      obtain ⟨d0, d1, d2, d3⟩ := box54 hbb
      have hok := R.out.ok p (List.mem_of_getElem? hp)
      have hap := apply1_length hok
      obtain ⟨g0, g1, g2, g3, g4, g5, g6⟩ := hok
      have HS := Aside0.mk (applyOf_succ a b hp)
      have HLe := Aside0.mk (applyOf_take_le R.out (k + 1))
      have hc := hv.cell
      have hf := hv.frozen
      have HO := Aside0.mk ho
      have HV := Aside0.mk hv
      have HB2 := Aside0.mk hb2
      have HSZ := Aside0.mk hsz
      have HOLD := Aside0.mk hold
      have hqa := (cell_old hold (p := ⟨w.heap.size, 0, none⟩) (by show w.heap.size < _; omega) (by show w.heap.size ≠ _; omega)).trans hxa0
      have hqb := (cell_old hold (p := ⟨w.heap.size + 1, 0, none⟩) (by show w.heap.size + 1 < _; omega) (by show w.heap.size + 1 ≠ _; omega)).trans hxb0
      have hra := reads_old hold HCa.out HAa.out
      have hrb := reads_old hold HCb.out HAb.out
      have hbo : w1.heap.size < W0.heap.size := by omega
      have hww : w.heap.size + 2 ≤ w1.heap.size := by omega
      clear hx hbb hv ho hb2 hp R H1 HCK HR0 HC0 hsz hC1 hA1 hBw hB0 bO bL bN HB1 hu54 hold hB2 HBB HXA HXB hxa hxb hxa1 hxa2 hs0 hs1 hsB hwB
      unfold applyAct
      obtain ⟨c, kp⟩ := p
      dsimp only at d0 d1 d2 d3 g0 g1 g2 g3 g4 g5 g6 HLe HS ⊢
      cases kp
      · have hcut := cut_reads hrb HCB.out c.f2 c.f3 g2 g3 g5
        obtain ⟨X, hX⟩ : ∃ X, (if cb = c.f2.toNat then Ab else Option.map (fun x => x.add c.f2.toNat) Ab) = X := ⟨_, rfl⟩
        obtain ⟨m, hm⟩ : ∃ m, (c.f2 + c.f3).toNat - c.f2.toNat = m := ⟨_, rfl⟩
        obtain ⟨cX, hcX⟩ : ∃ cX, cb - c.f2.toNat = cX := ⟨_, rfl⟩
        have hcap := HCB.out
        rw [hX, hm] at hcut
        have HCUT := Aside0.mk hcut
        have hw : IntKind.i64.wrap (c.f2 + c.f3) = c.f2 + c.f3 := by rw [IntKind.wrap_i64]; omega
        have q1 : (0 ≤ c.f2 + c.f3) = True := eq_true (by omega)
        have q2 : (c.f2 + c.f3 ≤ (cb : Int)) = True := eq_true (by omega)
        have q3 : (c.f2 ≤ max (c.f2 + c.f3) 0) = True := eq_true (by omega)
        clear hcut
        gi_wp2
        refine wpIn_region_still_tail (ro := some l) 10 ?hq rfl (by kernel_rfl) (by kernel_rfl) ?_
        case hq => rintro ⟨_, _, h⟩; simp +zetaDelta [Exit.then, Exit.inBlock, nextPost] at h
        simp only [List.take_succ_cons, List.take_zero, List.drop_succ_cons, List.drop_zero]
        obtain ⟨Wd, hWd⟩ : ∃ Wd : World, { W with drawn := W.drawn + 1 } = Wd := ⟨_, rfl⟩
        rw [hWd]
        replace hc : Wd.cell? ⟨w1.heap.size, 0, none⟩ = some v := by rw [← hWd]; exact hc
        replace hf : Wd.frozen? ⟨w1.heap.size, 0, none⟩ = false := by rw [← hWd]; exact hf
        replace hqb : Wd.cell? ⟨w.heap.size + 1, 0, none⟩ = some (.slice Ab b.length cb) := by rw [← hWd]; exact hqb
        replace d2 : Wd.cell? ⟨bx, 2, none⟩ = some (.int .i64 c.f2) := by rw [← hWd]; exact d2
        replace d3 : Wd.cell? ⟨bx, 2 + 1, none⟩ = some (.int .i64 c.f3) := by rw [← hWd]; exact d3
        repeat still_step
        refine wpStill_nil ?_
        have hvd : Boxed Wd w1.heap.size 23 v := by rw [← hWd]; exact HV.out
        have hod : Wd.ownsRow W0.heap.size 9 1 v (applyOf a b ((pieces l0 a.length 0 0).take k)).length (encs Value.string (applyOf a b ((pieces l0 a.length 0 0).take k))) := by rw [← hWd]; exact HO.out
        have hCd : Kd.C Kd.string Wd X m (apply1 a b (c, false)) := by rw [← hWd]; exact HCUT.out.1
        have hsd : W0.heap.size ≤ Wd.heap.size := by rw [← hWd]; exact HSZ.out
        have hml : m = (apply1 a b (c, false)).length := hCd.1.symm
        refine Kd.R_append_rows Kd.string (w0 := Wd) W0.heap.size rfl (.tmp 39) (.tmp 48) 23 9 (.string ⟨#[]⟩) 16 rfl Try.underlying23 info9 rfl (by decide) (by omega) v (applyOf a b ((pieces l0 a.length 0 0).take k)) (apply1 a b (c, false)) X m cX (fun _ => True) (fun _ => False) rfl rfl
          (Kd.R_of_own hod (fun _ _ => trivial)) hCd (fun _ _ h => h) (fun _ h => h.elim) (fun _ _ => trivial) (Below.refl _ _) hsd ?aL ?_
        case aL =>
          have e1 := HLe.out
          rw [HS.out, List.length_append, ← hml] at e1
          omega
        intro v1 w2 hO hB hg _
        have hown := Kd.own_of_R hO
        rw [← HS.out] at hown
        obtain ⟨Av, cv, rfl⟩ := own_slice hown
        obtain ⟨e1, e2, e3, e4, e5, e6⟩ := app_step hvd hbo hsd (by decide) (by decide) hod hown hg
        have ec := e1.cell
        have ef := e1.frozen
        have E2 := Aside0.mk e2
        have E3 := Aside0.mk e3
        have E4 : Aside0 (KeepsFrom W0.heap.size W (w2.setCell ⟨w1.heap.size, 0, none⟩ (.slice Av (applyOf a b ((pieces l0 a.length 0 0).take (k + 1))).length cv))) := ⟨by rw [← hWd] at e4; exact ⟨e4.1, e4.2⟩⟩
        have E5 : Aside0 (Kept54 W0.heap.size w1.heap.size W (w2.setCell ⟨w1.heap.size, 0, none⟩ (.slice Av (applyOf a b ((pieces l0 a.length 0 0).take (k + 1))).length cv))) := ⟨by rw [← hWd] at e5; exact ⟨e5.1, e5.2, e5.3⟩⟩
        have E6 : Aside0 (∀ b', b' ≤ w1.heap.size → Below b' W (w2.setCell ⟨w1.heap.size, 0, none⟩ (.slice Av (applyOf a b ((pieces l0 a.length 0 0).take (k + 1))).length cv))) := ⟨by rw [← hWd] at e6; exact fun b' h => ⟨(e6 b' h).os, (e6 b' h).tape, (e6 b' h).output, (e6 b' h).size, (e6 b' h).block⟩⟩
        clear e1 e2 e3 e4 e5 e6 hvd hod hCd hO hB hg hown
        go_wp2
        refine ⟨E4.out, E5.out, ⟨_, E2.out, E3.out, trivial⟩, HB2.out.trans (E6.out _ (by omega)), Nat.le_trans HSZ.out E5.out.1, fun i hi hb => (E5.out.2 i hi hb).trans (HOLD.out i hi hb)⟩
      · have g6' : c.f3 = c.f1 := g6 rfl
        have hcut := cut_reads hra HCA.out c.f0 c.f1 g0 g1 g4
        obtain ⟨X, hX⟩ : ∃ X, (if ca = c.f0.toNat then Aa else Option.map (fun x => x.add c.f0.toNat) Aa) = X := ⟨_, rfl⟩
        obtain ⟨m, hm⟩ : ∃ m, (c.f0 + c.f1).toNat - c.f0.toNat = m := ⟨_, rfl⟩
        obtain ⟨cX, hcX⟩ : ∃ cX, ca - c.f0.toNat = cX := ⟨_, rfl⟩
        have hcap := HCA.out
        rw [hX, hm] at hcut
        have HCUT := Aside0.mk hcut
        have hw : IntKind.i64.wrap (c.f0 + c.f1) = c.f0 + c.f1 := by rw [IntKind.wrap_i64]; omega
        have q1 : (0 ≤ c.f0 + c.f1) = True := eq_true (by omega)
        have q2 : (c.f0 + c.f1 ≤ (ca : Int)) = True := eq_true (by omega)
        have q3 : (c.f0 ≤ max (c.f0 + c.f1) 0) = True := eq_true (by omega)
        clear hcut
        gi_wp2
        refine wpIn_region_still_tail (ro := some l) 10 ?hq rfl (by kernel_rfl) (by kernel_rfl) ?_
        case hq => rintro ⟨_, _, h⟩; simp +zetaDelta [Exit.then, Exit.inBlock, nextPost] at h
        simp only [List.take_succ_cons, List.take_zero, List.drop_succ_cons, List.drop_zero]
        obtain ⟨Wd, hWd⟩ : ∃ Wd : World, { W with drawn := W.drawn + 1 } = Wd := ⟨_, rfl⟩
        rw [hWd]
        replace hc : Wd.cell? ⟨w1.heap.size, 0, none⟩ = some v := by rw [← hWd]; exact hc
        replace hf : Wd.frozen? ⟨w1.heap.size, 0, none⟩ = false := by rw [← hWd]; exact hf
        replace hqa : Wd.cell? ⟨w.heap.size, 0, none⟩ = some (.slice Aa a.length ca) := by rw [← hWd]; exact hqa
        replace d0 : Wd.cell? ⟨bx, 0, none⟩ = some (.int .i64 c.f0) := by rw [← hWd]; exact d0
        replace d1 : Wd.cell? ⟨bx, 0 + 1, none⟩ = some (.int .i64 c.f1) := by rw [← hWd]; exact d1
        repeat still_step
        refine wpStill_nil ?_
        have hvd : Boxed Wd w1.heap.size 23 v := by rw [← hWd]; exact HV.out
        have hod : Wd.ownsRow W0.heap.size 9 1 v (applyOf a b ((pieces l0 a.length 0 0).take k)).length (encs Value.string (applyOf a b ((pieces l0 a.length 0 0).take k))) := by rw [← hWd]; exact HO.out
        have hCd : Kd.C Kd.string Wd X m (apply1 a b (c, true)) := by rw [← hWd]; exact HCUT.out.1
        have hsd : W0.heap.size ≤ Wd.heap.size := by rw [← hWd]; exact HSZ.out
        have hml : m = (apply1 a b (c, true)).length := hCd.1.symm
        refine Kd.R_append_rows Kd.string (w0 := Wd) W0.heap.size rfl (.tmp 28) (.tmp 37) 23 9 (.string ⟨#[]⟩) 16 rfl Try.underlying23 info9 rfl (by decide) (by omega) v (applyOf a b ((pieces l0 a.length 0 0).take k)) (apply1 a b (c, true)) X m cX (fun _ => True) (fun _ => False) rfl rfl
          (Kd.R_of_own hod (fun _ _ => trivial)) hCd (fun _ _ h => h) (fun _ h => h.elim) (fun _ _ => trivial) (Below.refl _ _) hsd ?aL ?_
        case aL =>
          have e1 := HLe.out
          rw [HS.out, List.length_append, ← hml] at e1
          omega
        intro v1 w2 hO hB hg _
        have hown := Kd.own_of_R hO
        rw [← HS.out] at hown
        obtain ⟨Av, cv, rfl⟩ := own_slice hown
        obtain ⟨e1, e2, e3, e4, e5, e6⟩ := app_step hvd hbo hsd (by decide) (by decide) hod hown hg
        have ec := e1.cell
        have ef := e1.frozen
        have E2 := Aside0.mk e2
        have E3 := Aside0.mk e3
        have E4 : Aside0 (KeepsFrom W0.heap.size W (w2.setCell ⟨w1.heap.size, 0, none⟩ (.slice Av (applyOf a b ((pieces l0 a.length 0 0).take (k + 1))).length cv))) := ⟨by rw [← hWd] at e4; exact ⟨e4.1, e4.2⟩⟩
        have E5 : Aside0 (Kept54 W0.heap.size w1.heap.size W (w2.setCell ⟨w1.heap.size, 0, none⟩ (.slice Av (applyOf a b ((pieces l0 a.length 0 0).take (k + 1))).length cv))) := ⟨by rw [← hWd] at e5; exact ⟨e5.1, e5.2, e5.3⟩⟩
        have E6 : Aside0 (∀ b', b' ≤ w1.heap.size → Below b' W (w2.setCell ⟨w1.heap.size, 0, none⟩ (.slice Av (applyOf a b ((pieces l0 a.length 0 0).take (k + 1))).length cv))) := ⟨by rw [← hWd] at e6; exact fun b' h => ⟨(e6 b' h).os, (e6 b' h).tape, (e6 b' h).output, (e6 b' h).size, (e6 b' h).block⟩⟩
        clear e1 e2 e3 e4 e5 e6 hvd hod hCd hO hB hg hown
        go_wp2
        refine ⟨E4.out, E5.out, ⟨_, E2.out, E3.out, trivial⟩, HB2.out.trans (E6.out _ (by omega)), Nat.le_trans HSZ.out E5.out.1, fun i hi hb => (E5.out.2 i hi hb).trans (HOLD.out i hi hb)⟩
    case done =>
      rintro D W hD ⟨⟨v, hv, ho, _⟩, hb2, hsz, hold⟩ hK
      rw [List.length_map, List.take_of_length_le (Nat.le_refl _), H1.out] at ho
      have HO := Aside0.mk ho
      have HB2 := Aside0.mk hb2
      have HV := Aside0.mk hv
      have hc := hv.cell
      have HKD := Aside0.mk hK
      have HDw : Aside0 (w.heap.size ≤ D) := ⟨by omega⟩
      obtain ⟨Av, cv, rfl⟩ := own_slice ho
      clear ho hb2 hv hK
      gi_wp2
      refine ⟨by simp, .inl ⟨_, _, rfl, run_takeDeferred HKD.out, ?_⟩⟩
      refine ⟨_, results_tmp2 rfl _ _ _, .slice Av r1.length cv, rfl, ?_, HB2.out.trans (belowK_b (w := w) (Nat.le_refl _) W D _ _ HDw.out HKD.out rfl rfl)⟩
      exact Kd.R_lower (Kd.R_of_own (ownsRow_putObj HO.out _ HKD.out rfl) (fun _ _ => trivial)) (by omega)
  · rw [if_neg hck] at h
    injection h with h
    injection h with hr1 hr2
    subst hr1
    rw [hr2] at HCK
    have hne : (r2 != 0) = true := by rw [bne_iff_ne]; rw [hr2] at hck; exact hck
    clear hr2 hck
    refine callsIn_of_wp_marks Try.func9 rfl trivial ?_ rfl
    simp only [Try.ntmps9, List.size_toArray, List.length_cons, List.length_nil, Nat.reduceAdd, Nat.reduceSub, Array.replicate_succ, Array.replicate_zero, List.push_toArray, List.append_toArray, List.nil_append, List.cons_append]
    gi_wp2_with fail
    refine ⟨trivial, ?_⟩
    refine (calls_wide (ro := none) (edits_Check.calls (2 * l0.length + 1) _ _ l0 a.length b.length r2 _ (Kd.C_below HR0.out HBB.out) HC0.out HCK.out)).mono ?_
    rintro e w1 ⟨rfl, hb1⟩
    have HB1 := Aside0.mk hb1
    clear hb1
    gi_wp2
    refine ⟨_, results_tmp2 rfl _ _ _, .slice none 0 0, rfl, Kd.R_nil _ _ _ _ _, HBB.out.trans (HB1.out.mono (by omega))⟩

theorem edits_Apply.calls (A0 : Option Addr) (c0 : Nat) (l0 : List S54) (Aa : Option Addr) (ca : Nat) (a : List ByteArray) (Ab : Option Addr) (cb : Nat) (b : List ByteArray) (r1 : List ByteArray) (r2 : Int) (w : World) (hr0 : Kd.C k54 w A0 l0.length l0) (hc0 : l0.length ≤ c0)
    (hra : Kd.C Kd.string w Aa a.length a) (hca : a.length ≤ ca) (hrb : Kd.C Kd.string w Ab b.length b) (hcb : b.length ≤ cb) (h : edits_Apply.f l0 a b = some (r1, r2)) :
    Calls Try.prog 9 #[.slice A0 l0.length c0, .slice Aa a.length ca, .slice Ab b.length cb] w fun e w' => ∃ v0_ : Value, e = .returned (.tuple #[v0_, .int .i64 r2]) ∧ Kd.R Kd.string 9 w' w.heap.size (fun _ => True) v0_ r1 ∧ Below w.heap.size w w' :=
  callsIn_wide.1 (apply_in 6 (Nat.le_refl _) A0 Aa Ab c0 ca cb l0 a b r1 r2 w hr0 hc0 hra hca hrb hcb h)
end Go.Proofs.Ytpkhfeeelkhkaaa.X
