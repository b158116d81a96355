/-
  The contract of edits.Keep: of a list of changes that is a right script what it keeps, else the error.
-/
import Derived.Test.YtpkhfeeelkhkaaaEPieces
namespace Go.Proofs.Ytpkhfeeelkhkaaa.X
open Go.RowKit Go.Proofs.YtpkhfeeelkhkaaaW.PrintWords Go.Proofs.YtpkhfeeelkhkaaaW.PrintLast Go.Proofs.YtpkhfeeelkhkaaaW.PrintMore Go.Proofs.YtpkhfeeelkhkaaaB
attribute [local go_sem] Oper.semAt_some
set_option linter.unusedVariables false
set_option linter.unusedSimpArgs false

def edits_Keep.f (l0 : List S54) (a1 a2 : Int) : Option (List Int × Int) :=
  if l0.length ≤ 4398046511104 ∧ a1 ≤ 9223372036854775807 ∧ a2 ≤ 9223372036854775807 then
    (if chk l0 a1 a2 = 0 then (if a1 ≤ 17592186044416 then some (keepOf (pieces l0 a1 0 0), 0) else none) else some ([], chk l0 a1 a2))
  else none

/-- edits.runs boxes what it is given. -/
theorem runs_in (n : Nat) (A0 : Option Addr) (n0 c0 : Nat) (N : Int) (w : World) :
    CallsIn Fence.wide n Try.prog 29 #[.slice A0 n0 c0, .int .i64 N] w fun e w' => e = .returned (.func (.func 35) #[] #[.pointer (some ⟨w.heap.size, 0, none⟩), .pointer (some ⟨w.heap.size + 1, 0, none⟩)]) ∧
      (w.alloc (.cells #[.slice A0 n0 c0] 22)).alloc (.cells #[.int .i64 N] 3) = w' := by
  refine callsIn_of_wp Try.func29 rfl trivial ?_ rfl
  simp only [Try.ntmps29, List.size_toArray, List.length_cons, List.length_nil, Nat.reduceAdd, Nat.reduceSub, Array.replicate_succ, Array.replicate_zero, List.push_toArray, List.append_toArray, List.nil_append, List.cons_append]
  gi_wp2
  go_ret
  exact ⟨rfl, rfl⟩

/-- The iterator that runs has made gives the pieces. -/
theorem runs_next (n : Nat) (hn1 : 1 ≤ n) (Bl Bn bo : Nat) (A0 : Option Addr) (c0 : Nat) (l0 : List S54) (N : Int) (hN0 : 0 ≤ N) (hN1 : N ≤ 1152921504606846976) (hV : ∀ c ∈ l0, Chg c) (W0 : World)
    (hBl : W0.cell? ⟨Bl, 0, none⟩ = some (.slice A0 l0.length c0)) (hBl' : Bl ≠ bo) (hBn : W0.cell? ⟨Bn, 0, none⟩ = some (.int .i64 N)) (hBn' : Bn ≠ bo)
    (hC : Kd.C k54 W0 A0 l0.length l0) (hA : ∀ ad, A0 = some ad → 0 < l0.length → ad.block < W0.heap.size ∧ ad.block ≠ bo) :
    SeqNext Fence.wide n Try.prog 35 #[.pointer (some ⟨Bl, 0, none⟩), .pointer (some ⟨Bn, 0, none⟩)] ((pieces l0 N 0 0).map encP) (Kept54 W0.heap.size bo) W0 := by
  intro l J W hW hJ hY h0
  have lt1 := World.block_lt_of_cell? W0 _ hBl
  have lt2 := World.block_lt_of_cell? W0 _ hBn
  rw [List.length_map]
  refine runs1_in n hn1 l Bl Bn W0.heap.size bo A0 c0 l0 N hN0 hN1 hV lt1 hBl' lt2 hBn' hA J (fun k W o h => hJ k W _ none h (World.grownBy_alloc W o none) (fun r e => by cases e))
    (fun k W h => hJ k W _ none h ⟨rfl, rfl, rfl, Nat.le_refl _, fun _ _ _ => rfl⟩ (fun r e => by cases e))
    (fun k x W1 hx hj => hY k _ W1 (by rw [List.getElem?_map, hx]; rfl) hj) W hW.size ((hW.cell (p := ⟨Bl, 0, none⟩) lt1).trans hBl) ((hW.cell (p := ⟨Bn, 0, none⟩) lt2).trans hBn) (Kd.C_below hC hW) h0

theorem own_block {W : World} {base size k : Nat} {e : TypeId} {v : Value} {xs : List Value} (h : W.ownsRow base e size v k xs) {g : Nat} (hg : v.ownBlock = some g) : base ≤ g ∧ ∃ cs fr, W.heap[g]? = some (.cells cs e fr) := by
  rcases h.2 with ⟨rfl, _⟩ | ⟨g', cap, cur, rfl, hb, hh, _⟩
  · simp [Value.ownBlock] at hg
  · have : g' = g := by simpa [Value.ownBlock] using hg
    subst this
    exact ⟨hb, _, _, hh⟩
/-- A row that lies in a box is appended to, and the box is set. -/
theorem app_step {W w1 : World} {n₀ bo size k m : Nat} {t e : TypeId} {v v1 : Value} {xs ys : List Value} (hv : Boxed W bo t v) (hbo : bo < n₀) (hn : n₀ ≤ W.heap.size) (ht : t ≠ 54) (he : e ≠ 54)
    (hrow : W.ownsRow n₀ e size v k xs) (hown : w1.ownsRow n₀ e size v1 m ys) (hg : W.grownBy w1 v.ownBlock) :
    Boxed w1 bo t v ∧ Boxed (w1.setCell ⟨bo, 0, none⟩ v1) bo t v1 ∧ (w1.setCell ⟨bo, 0, none⟩ v1).ownsRow n₀ e size v1 m ys ∧ KeepsFrom n₀ W (w1.setCell ⟨bo, 0, none⟩ v1) ∧ Kept54 n₀ bo W (w1.setCell ⟨bo, 0, none⟩ v1) ∧
      (∀ b, b ≤ bo → Below b W (w1.setCell ⟨bo, 0, none⟩ v1)) := by
  have hob := fun g h => own_block hrow (g := g) h
  have hne : some bo ≠ v.ownBlock := fun e' => by have := (hob bo e'.symm).1; omega
  have hne1 : v1.ownBlock = none ∨ v1.ownBlock ≠ some bo := by
    rcases h : v1.ownBlock with _ | g
    · exact .inl rfl
    · exact .inr fun e' => by
        injection e' with e'
        have := (own_block hown h).1
        omega
  have hv1 : Boxed w1 bo t v := hv.kept hg hne
  have hg2 := grownBy_setCell' w1 bo v1
  have hb2 : ∀ i, i < W.heap.size → some i ≠ v.ownBlock → i ≠ bo → (w1.setCell ⟨bo, 0, none⟩ v1).heap[i]? = W.heap[i]? := fun i hi h1 h2 =>
    (hg2.block i (Nat.lt_of_lt_of_le hi hg.size) (fun e' => h2 (by injection e'))).trans (hg.block i hi h1)
  refine ⟨hv1, hv1.set v1, hown.kept hg2 hne1, ?_, ?_, ?_⟩
  · refine ⟨Nat.le_trans hg.size hg2.size, fun i o hi ho hc => ?_⟩
    rw [hb2 i (Array.getElem?_eq_some_iff.1 ho).1 (fun e' => ?_) (by omega)]
    · exact ho
    · obtain ⟨_, cs, fr, hh⟩ := hob i e'.symm
      rw [ho] at hh
      injection hh with hh
      subst hh
      cases hc
  · refine ⟨Nat.le_trans hg.size hg2.size, fun i hi hib => hb2 i (by omega) (fun e' => by have := (hob i e'.symm).1; omega) hib, fun i cs fr ho => ?_⟩
    rw [hb2 i (Array.getElem?_eq_some_iff.1 ho).1 (fun e' => ?_) (fun e' => ?_)]
    · exact ho
    · obtain ⟨_, cs', fr', hh⟩ := hob i e'.symm
      rw [ho] at hh
      injection hh with hh
      injection hh with _ hh
      exact he hh.symm
    · subst e'
      rw [show W.heap[i]? = _ from hv] at ho
      injection ho with ho
      injection ho with _ ho
      exact ht ho
  · intro b hb
    exact ⟨hg2.os.trans hg.os, hg2.tape.trans hg.tape, hg2.output.trans hg.output, Nat.le_trans hg.size hg2.size, fun i hi => hb2 i (by omega) (fun e' => by have := (hob i e'.symm).1; omega) (by omega)⟩

/-- The temporaries behind the loop's assignment. -/
def keepAct (A0 : Option Addr) (n0 c0 : Nat) (a1 a2 : Int) (s B : Nat) (p : S54 × Bool) : Act :=
  { tmps :=
      #[.slice A0 n0 c0, .int .i64 a1, .int .i64 a2, undef, undef, undef, .slice none 0 0, .int .i64 0, .int .i64 0, .pointer (some ⟨s, 0, none⟩), .pointer (some ⟨B, 0, none⟩), .bool p.2, undef, .slice A0 n0 c0,
        .int .i64 a1, .int .i64 a2, .int .i64 0, .int .i64 0, .bool false, undef, .slice A0 n0 c0, .int .i64 a1, .func (.func 35) #[] #[.pointer (some ⟨s + 1, 0, none⟩), .pointer (some ⟨s + 1 + 1, 0, none⟩)],
        .agg #[.int .i64 p.1.f0, .int .i64 p.1.f1, .int .i64 p.1.f2, .int .i64 p.1.f3], .bool p.2, undef, undef, undef, undef, undef, undef, undef, undef, undef, undef, undef, undef, undef, undef, undef, undef, undef, undef],
    defers := [] }
theorem keep1_take (p : S54 × Bool) (z : Nat) (h : z < p.1.f1.toNat) : (keep1 p).take (z + 1) = (keep1 p).take z ++ [if p.2 = true then p.1.f2 + (z : Int) else -1] := by
  refine take_succ ?_
  simp [keep1, h]

theorem ownFrom_size {β : Type} (B s : Nat) : OwnFrom B (fun (_ : β) W => s ≤ W.heap.size) := fun _ _ _ _ hs hg _ => Nat.le_trans hs hg.size

set_option maxRecDepth 100000 in
set_option maxHeartbeats 2000000 in
theorem keep_in (n : Nat) (hn : 6 ≤ n) (A0 : Option Addr) (c0 : Nat) (l0 : List S54) (a1 a2 : Int) (r1 : List Int) (r2 : Int) (w : World) (hr0 : Kd.C k54 w A0 l0.length l0) (hc0 : l0.length ≤ c0) (h : edits_Keep.f l0 a1 a2 = some (r1, r2)) :
    CallsIn Fence.wide n Try.prog 15 #[.slice A0 l0.length c0, .int .i64 a1, .int .i64 a2] w fun e w' => ∃ v0_ : Value, e = .returned (.tuple #[v0_, .int .i64 r2]) ∧ Kd.R (Kd.int .i64) 3 w' w.heap.size (fun _ => True) v0_ r1 ∧ Below w.heap.size w w' := by
  have h1 : 1 ≤ n := by omega
  have hu54 := Try.underlying54
  unfold edits_Keep.f at h
  split at h
  rotate_left
  · cases h
  rename_i hg
  obtain ⟨hg1, hg2, hg3⟩ := hg
  have HR0 := Aside0.mk hr0
  have HC0 := Aside0.mk hc0
  have HCK := Aside0.mk (check_f l0 (by omega) a1 a2 hg2 hg3)
  clear hr0 hc0
  by_cases hck : chk l0 a1 a2 = 0
  · rw [if_pos hck] at h
    split at h
    rotate_left
    · cases h
    rename_i hb
    injection h with h
    injection h with hr1 hr2
    subst hr2
    rw [hck] at HCK
    have R := Aside0.mk (right_of_chk a1 a2 l0 true 0 0 (by omega) (by omega) hck)
    have H1 := Aside0.mk hr1
    have hn0 : 0 ≤ a1 := R.out.le_n
    clear hr1 hck
    refine callsIn_of_wp_marks Try.func15 rfl trivial ?_ rfl
    simp only [Try.ntmps15, List.size_toArray, List.length_cons, List.length_nil, Nat.reduceAdd, Nat.reduceSub, Array.replicate_succ, Array.replicate_zero, List.push_toArray, List.append_toArray, List.nil_append, List.cons_append]
    gi_wp2_with fail
    refine ⟨trivial, ?_⟩
    refine (calls_wide (ro := none) (edits_Check.calls (2 * l0.length + 1) _ _ l0 a1 a2 0 _ HR0.out HC0.out HCK.out)).mono ?_
    rintro e w1 ⟨rfl, hb1⟩
    have HB1 := Aside0.mk hb1
    clear hb1
    gi_wp2_with fail
    refine ⟨trivial, ?_⟩
    refine (runs_in _ _ _ _ _ _).mono ?_
    rintro e w2 ⟨rfl, rfl⟩
    gi_wp2_with fail
    obtain ⟨W0, hW0⟩ : ∃ W0, ((w1.alloc (.cells #[.slice none 0 0] 31)).alloc (.cells #[.slice A0 l0.length c0] 22)).alloc (.cells #[.int .i64 a1] 3) = W0 := ⟨_, rfl⟩
    rw [hW0]
    have hs0 : W0.heap.size = w1.heap.size + 3 := by rw [← hW0]; simp
    have hB0 : Below w1.heap.size w1 W0 := by rw [← hW0]; exact (((Below.refl _ w1).alloc (Nat.le_refl _) _).alloc (by simp) _).alloc (by simp; omega) _
    have bO : Boxed W0 w1.heap.size 31 (.slice none 0 0) := by rw [← hW0]; exact ((Boxed.new w1 31 _).alloc _).alloc _
    have bL : Boxed W0 (w1.heap.size + 1) 22 (.slice A0 l0.length c0) := by
      have := Boxed.new (w1.alloc (.cells #[.slice none 0 0] 31)) 22 (.slice A0 l0.length c0)
      rw [World.size_alloc] at this
      rw [← hW0]; exact this.alloc _
    have bN : Boxed W0 (w1.heap.size + 2) 3 (.int .i64 a1) := by
      have := Boxed.new ((w1.alloc (.cells #[.slice none 0 0] 31)).alloc (.cells #[.slice A0 l0.length c0] 22)) 3 (.int .i64 a1)
      rw [World.size_alloc, World.size_alloc] at this
      rw [← hW0]; exact this
    have hC1 := Kd.C_below HR0.out HB1.out
    have hA1 : ∀ ad, A0 = some ad → 0 < l0.length → ad.block < w1.heap.size := by
      intro ad e h
      obtain ⟨ad', e', hx, _⟩ := at_T54 hC1 0 (by omega) (by omega)
      rw [e] at e'
      injection e' with e'
      subst e'
      have := World.block_lt_of_cell? w1 _ hx
      rwa [show (ad.add ((0 : Int).toNat * 4)).block = ad.block from by unfold Addr.add; split <;> rfl] at this
    have hBw : Below w.heap.size w W0 := HB1.out.trans (hB0.mono HB1.out.size)
    clear hW0
    refine wpIn_rangeFunc_next rfl h1 (gf := 35) (lb := #[.pointer (some ⟨w1.heap.size + 1, 0, none⟩), .pointer (some ⟨w1.heap.size + 2, 0, none⟩)]) rfl trivial (enters_of Try.func35 (by kernel_rfl) rfl)
      (runs_next (n - 1) (by omega) (w1.heap.size + 1) (w1.heap.size + 2) w1.heap.size A0 c0 l0 a1 hn0 (by omega) R.out.chg W0 bL.cell (by omega) bN.cell (by omega) (Kd.C_below hC1 hB0) (fun ad e h => ⟨by have := hA1 ad e h; omega, by have := hA1 ad e h; omega⟩))
      (fun h k => h.trans k) ?hKb (Below.refl _ _) ?hps
      (fun k W => (∃ v, Boxed W w1.heap.size 31 v ∧ W.ownsRow W0.heap.size 3 1 v (keepOf ((pieces l0 a1 0 0).take k)).length (nums .i64 (keepOf ((pieces l0 a1 0 0).take k))) ∧ True) ∧ Below w.heap.size w W ∧ W0.heap.size ≤ W.heap.size)
      (OwnFrom.and (Own.from (holdsRow_own W0.heap.size w1.heap.size 31 3 1 (fun k => (keepOf ((pieces l0 a1 0 0).take k)).length) (fun k => nums .i64 (keepOf ((pieces l0 a1 0 0).take k))) (fun _ _ => True)) _) (OwnFrom.and (ownFrom_below (Nat.le_refl _) hBw.size) (ownFrom_size _ _)))
      ⟨⟨_, bO, own_nil _ _ _ _, trivial⟩, hBw, Nat.le_refl _⟩
      (fun (k : Nat) (a' : Act) (W : World) => ∃ (p : S54 × Bool) (B : Nat), (pieces l0 a1 0 0)[k]? = some p ∧ W.heap[B]? = some (Obj.cells #[.int .i64 p.1.f0, .int .i64 p.1.f1, .int .i64 p.1.f2, .int .i64 p.1.f3] 54 (0, 0)) ∧ a' = keepAct A0 l0.length c0 a1 a2 w1.heap.size B p) ?hAx ?assign ?body ?done
    case assign =>
      intro l k x W K hx hI hK
      rw [List.getElem?_map] at hx
      obtain ⟨p, hp, rfl⟩ := Option.map_eq_some_iff.1 hx
      dsimp only [encP]
      gi_wp2
      refine hK _ _ ((KeepsOthers.alloc _ _).from _) ((Kept54.refl _ _ _).alloc ?_ _) ⟨?_, ?_⟩ ⟨p, W.heap.size, hp, World.alloc_heap_new _ _, rfl⟩
      · exact hI.2.2
      · obtain ⟨v, h1, h2, h3⟩ := hI.1
        exact ⟨v, h1.alloc _, h2.alloc _, h3⟩
      · exact ⟨hI.2.1.alloc hI.2.1.size _, by have := hI.2.2; simp; omega⟩
    case hKb =>
      intro W l o o' hl h hc _
      refine ⟨by simp, fun i hi _ => World.putObj_heap_other (by omega), fun i cs fr hi => (World.putObj_heap_other (fun e => ?_)).trans hi⟩
      subst e
      rw [h] at hi
      injection hi with hi
      subst hi
      cases hc
    case hps =>
      intro k x hx
      rw [List.getElem?_map] at hx
      obtain ⟨p, hp, rfl⟩ := Option.map_eq_some_iff.1 hx
      rfl
    case hAx =>
      intro k a' s A B row hs hg hr
      obtain ⟨p, b, hp, hb, ha⟩ := hs
      exact ⟨p, b, hp, (grownBy_keeps_cells hg (fun r e => (hr r e).2) hb rfl).trans hb, ha⟩
    case body =>
      rintro l k x a' W hx ⟨⟨v, hv, ho, _⟩, hb2, hsz⟩ ⟨p, b, hp, hbb, rfl⟩
      obtain ⟨d0, d1, d2, d3⟩ := box54 hbb
      have hok := R.out.ok p (List.mem_of_getElem? hp)
      have HOK := Aside0.mk hok
      obtain ⟨g0, g1, g2, g3, g4, g5, g6⟩ := hok
      have HS := Aside0.mk (keepOf_succ hp)
      have HBB := Aside0.mk hbb
      have HB2 := Aside0.mk hb2
      have HO : Aside0 (∃ v, Boxed W w1.heap.size 31 v ∧ W.ownsRow W0.heap.size 3 1 v (keepOf ((pieces l0 a1 0 0).take k) ++ (keep1 p).take (0 : Int).toNat).length (nums .i64 (keepOf ((pieces l0 a1 0 0).take k) ++ (keep1 p).take (0 : Int).toNat))) :=
        ⟨v, hv, by simpa using ho⟩
      have HLe : Aside0 (∀ z : Nat, z ≤ p.1.f1.toNat → ((keepOf ((pieces l0 a1 0 0).take k) ++ (keep1 p).take z).length : Int) ≤ a1) := ⟨fun z hz => by
        have h1 := keepOf_take_le R.out (k + 1)
        rw [HS.out, List.length_append, keep1_length] at h1
        rw [List.length_append, List.length_take, keep1_length]
        omega⟩
      have HSZ := Aside0.mk hsz
      have hs1 := Aside0.mk hs0
      have hlt1 : w1.heap.size < W0.heap.size := by omega
      have HWS := Aside0.mk HB1.out.size
      clear hx hbb hv ho hb2 hp R H1 HCK HR0 HC0 hsz hC1 hA1 hBw hB0 bO bL bN HB1 hu54 hs0
      unfold keepAct
      obtain ⟨c, kp⟩ := p
      dsimp only at d0 d1 d2 d3 g0 g1 g2 g3 g4 g5 g6 HBB HO HLe HS HOK ⊢
      have hws : w.heap.size ≤ w1.heap.size := HWS.out
      cases kp
      · have g6' : True := trivial
        gi_wp2
        gi_loopw [12, 27] (fun v12 v27 wr => ∃ (z : Int) (xs : List Int), v27 = .int .i64 z ∧ Aside0 (0 ≤ z ∧ z ≤ c.f1) ∧ Aside0 (xs = keepOf ((pieces l0 a1 0 0).take k) ++ (keep1 (c, false)).take z.toNat) ∧
          Aside0 (∃ v, Boxed wr w1.heap.size 31 v ∧ wr.ownsRow W0.heap.size 3 1 v xs.length (nums .i64 xs)) ∧
          Aside0 (Below w.heap.size w wr) ∧ Aside0 (KeepsFrom W0.heap.size W wr ∧ Kept54 W0.heap.size w1.heap.size W wr)) (fun _ v27 _ => (c.f1 - intOf v27).toNat)
        case atStart => exact ⟨0, _, rfl, ⟨by omega⟩, ⟨rfl⟩, HO, HB2, ⟨KeepsFrom.refl _ _, Kept54.refl _ _ _⟩⟩
        case round =>
          obtain ⟨z, xs, rfl, HZ, HX, HO', HB', HK'⟩ := hrel
          clear HO HB2 d0 d1 d2 d3
          obtain ⟨d0, d1, d2, d3⟩ := box54 (HK'.out.2.c54 _ _ _ HBB.out)
          have hz0 := HZ.out.1
          by_cases hlt : z < c.f1
          · have q1 : decide (z < c.f1) = true := by simpa using hlt
            have HX1 : Aside0 (xs ++ [-1] = keepOf ((pieces l0 a1 0 0).take k) ++ (keep1 (c, false)).take (z.toNat + 1)) := ⟨by
              rw [keep1_take (c, false) z.toNat (show z.toNat < c.f1.toNat by omega), HX.out, List.append_assoc]
              simp⟩
            have HL' : Aside0 ((xs.length : Int) + 1 ≤ a1) := ⟨by
              have e1 := HLe.out (z.toNat + 1) (show z.toNat + 1 ≤ c.f1.toNat by omega)
              rw [← HX1.out] at e1
              simpa using e1⟩
            obtain ⟨v, hv, ho⟩ := HO'.out
            have hc := hv.cell
            have hf := hv.frozen
            have HSZ' : Aside0 (W0.heap.size ≤ wr.heap.size) := ⟨Nat.le_trans HSZ.out HK'.out.1.size⟩
            obtain ⟨i0, hi, hz0', hz1, hz2⟩ := info_parts info3
            clear HO' HLe HX
            have h3 : True := trivial
            gi_wp2_with (gi_at_builtin; refine wpListIn_append_own _ rfl _ _ 31 rfl W0.heap.size 3 i0 (.int .i64 0) 1 8 Try.underlying31 hi hz0' hz1 hz2 rfl (by decide) _ _ _ rfl (ho.alloc _) ⟨wr.heap.size, 0, none⟩ 1 1 [.int .i64 (-1)] rfl rfl (cell_one_new _ _ _) ?c1 ?c2 ?c3 ?c4 ?_; (case c1 => simp [Value.oneCell']); (case c2 => have := HL'.out; simp only [maxLen]; omega); (case c3 => have := HL'.out; omega); (case c4 => have := HSZ'.out; simp; omega); intro v' w2 hown hgrow _; obtain ⟨g', cap', rfl⟩ := ownsRow_succ hown; obtain ⟨e1, e2, e3, e4, e5, e6⟩ := app_step hv (by omega) HSZ'.out (by decide) (by decide) ho hown (World.grownBy.trans (World.grownBy_alloc wr _ _) hgrow); have ec := e1.cell; have ef := e1.frozen; have E2 := Aside0.mk e2; have E3 := Aside0.mk e3; have E4 := Aside0.mk e4; have E5 := Aside0.mk e5; have E6 := Aside0.mk e6; clear e1 e2 e3 e4 e5 e6 hv ho hc hf hown hgrow)
            refine ⟨⟨z + 1, xs ++ [-1], rfl, ⟨by omega⟩, ⟨by rw [HX1.out, show (z + 1).toNat = z.toNat + 1 by omega]⟩, ⟨_, E2.out, by simpa [nums] using E3.out⟩, ⟨HB'.out.trans (E6.out _ (by have := HB'.out.size; omega))⟩, ⟨HK'.out.1.trans E4.out, HK'.out.2.trans E5.out⟩⟩, ?_⟩
            simp only [intOf]
            omega
          · have q1 : decide (z < c.f1) = false := by simpa using hlt
            gi_wp2
            obtain ⟨v, hv, ho⟩ := HO'.out
            have ht : (keep1 (c, false)).take z.toNat = keep1 (c, false) := List.take_of_length_le (by rw [keep1_length]; show c.f1.toNat ≤ z.toNat; omega)
            rw [HX.out, ht, ← HS.out] at ho
            exact ⟨HK'.out.1, HK'.out.2, ⟨v, hv, ho⟩, HB'.out, Nat.le_trans HSZ.out HK'.out.1.size⟩
      · have g6' : c.f3 = c.f1 := g6 rfl
        gi_wp2
        gi_loopw [12, 27] (fun v12 v27 wr => ∃ (z : Int) (xs : List Int), v27 = .int .i64 z ∧ Aside0 (0 ≤ z ∧ z ≤ c.f1) ∧ Aside0 (xs = keepOf ((pieces l0 a1 0 0).take k) ++ (keep1 (c, true)).take z.toNat) ∧
          Aside0 (∃ v, Boxed wr w1.heap.size 31 v ∧ wr.ownsRow W0.heap.size 3 1 v xs.length (nums .i64 xs)) ∧
          Aside0 (Below w.heap.size w wr) ∧ Aside0 (KeepsFrom W0.heap.size W wr ∧ Kept54 W0.heap.size w1.heap.size W wr)) (fun _ v27 _ => (c.f1 - intOf v27).toNat)
        case atStart => exact ⟨0, _, rfl, ⟨by omega⟩, ⟨rfl⟩, HO, HB2, ⟨KeepsFrom.refl _ _, Kept54.refl _ _ _⟩⟩
        case round =>
          obtain ⟨z, xs, rfl, HZ, HX, HO', HB', HK'⟩ := hrel
          clear HO HB2 d0 d1 d2 d3
          obtain ⟨d0, d1, d2, d3⟩ := box54 (HK'.out.2.c54 _ _ _ HBB.out)
          have hz0 := HZ.out.1
          by_cases hlt : z < c.f1
          · have q1 : decide (z < c.f1) = true := by simpa using hlt
            have HX1 : Aside0 (xs ++ [c.f2 + z] = keepOf ((pieces l0 a1 0 0).take k) ++ (keep1 (c, true)).take (z.toNat + 1)) := ⟨by
              rw [keep1_take (c, true) z.toNat (show z.toNat < c.f1.toNat by omega), HX.out, List.append_assoc]
              simp; omega⟩
            have HL' : Aside0 ((xs.length : Int) + 1 ≤ a1) := ⟨by
              have e1 := HLe.out (z.toNat + 1) (show z.toNat + 1 ≤ c.f1.toNat by omega)
              rw [← HX1.out] at e1
              simpa using e1⟩
            obtain ⟨v, hv, ho⟩ := HO'.out
            have hc := hv.cell
            have hf := hv.frozen
            have HSZ' : Aside0 (W0.heap.size ≤ wr.heap.size) := ⟨Nat.le_trans HSZ.out HK'.out.1.size⟩
            obtain ⟨i0, hi, hz0', hz1, hz2⟩ := info_parts info3
            clear HO' HLe HX
            have h3 : c.f2 + z ≤ 9223372036854775807 := by omega
            gi_wp2_with (gi_at_builtin; refine wpListIn_append_own _ rfl _ _ 31 rfl W0.heap.size 3 i0 (.int .i64 0) 1 8 Try.underlying31 hi hz0' hz1 hz2 rfl (by decide) _ _ _ rfl (ho.alloc _) ⟨wr.heap.size, 0, none⟩ 1 1 [.int .i64 (c.f2 + z)] rfl rfl (cell_one_new _ _ _) ?c1 ?c2 ?c3 ?c4 ?_; (case c1 => simp [Value.oneCell']); (case c2 => have := HL'.out; simp only [maxLen]; omega); (case c3 => have := HL'.out; omega); (case c4 => have := HSZ'.out; simp; omega); intro v' w2 hown hgrow _; obtain ⟨g', cap', rfl⟩ := ownsRow_succ hown; obtain ⟨e1, e2, e3, e4, e5, e6⟩ := app_step hv (by omega) HSZ'.out (by decide) (by decide) ho hown (World.grownBy.trans (World.grownBy_alloc wr _ _) hgrow); have ec := e1.cell; have ef := e1.frozen; have E2 := Aside0.mk e2; have E3 := Aside0.mk e3; have E4 := Aside0.mk e4; have E5 := Aside0.mk e5; have E6 := Aside0.mk e6; clear e1 e2 e3 e4 e5 e6 hv ho hc hf hown hgrow)
            refine ⟨⟨z + 1, xs ++ [c.f2 + z], rfl, ⟨by omega⟩, ⟨by rw [HX1.out, show (z + 1).toNat = z.toNat + 1 by omega]⟩, ⟨_, E2.out, by simpa [nums] using E3.out⟩, ⟨HB'.out.trans (E6.out _ (by have := HB'.out.size; omega))⟩, ⟨HK'.out.1.trans E4.out, HK'.out.2.trans E5.out⟩⟩, ?_⟩
            simp only [intOf]
            omega
          · have q1 : decide (z < c.f1) = false := by simpa using hlt
            gi_wp2
            obtain ⟨v, hv, ho⟩ := HO'.out
            have ht : (keep1 (c, true)).take z.toNat = keep1 (c, true) := List.take_of_length_le (by rw [keep1_length]; show c.f1.toNat ≤ z.toNat; omega)
            rw [HX.out, ht, ← HS.out] at ho
            exact ⟨HK'.out.1, HK'.out.2, ⟨v, hv, ho⟩, HB'.out, Nat.le_trans HSZ.out HK'.out.1.size⟩
    case done =>
      rintro D W hD ⟨⟨v, hv, ho, _⟩, hb2, hsz⟩ hK
      rw [List.length_map, List.take_of_length_le (Nat.le_refl _), H1.out] at ho
      have HO := Aside0.mk ho
      have HB2 := Aside0.mk hb2
      have HV := Aside0.mk hv
      have hc := hv.cell
      have HKD := Aside0.mk hK
      have HDw : Aside0 (w.heap.size ≤ D) := ⟨by have := HB1.out.size; omega⟩
      obtain ⟨Av, cv, rfl⟩ := own_slice ho
      clear ho hb2 hv hK
      gi_wp2
      refine ⟨by simp, .inl ⟨_, _, rfl, run_takeDeferred HKD.out, ?_⟩⟩
      refine ⟨_, results_tmp2 rfl _ _ _, .slice Av r1.length cv, rfl, ?_, HB2.out.trans (belowK_b (w := w) (Nat.le_refl _) W D _ _ HDw.out HKD.out rfl rfl)⟩
      exact Kd.R_lower (Kd.R_of_own (ownsRow_putObj HO.out _ HKD.out rfl) (fun _ _ => trivial)) (by have := HB1.out.size; omega)
  · rw [if_neg hck] at h
    injection h with h
    injection h with hr1 hr2
    subst hr1
    rw [hr2] at HCK
    have hne : (r2 != 0) = true := by rw [bne_iff_ne]; rw [hr2] at hck; exact hck
    clear hr2 hck
    refine callsIn_of_wp_marks Try.func15 rfl trivial ?_ rfl
    simp only [Try.ntmps15, List.size_toArray, List.length_cons, List.length_nil, Nat.reduceAdd, Nat.reduceSub, Array.replicate_succ, Array.replicate_zero, List.push_toArray, List.append_toArray, List.nil_append, List.cons_append]
    gi_wp2_with fail
    refine ⟨trivial, ?_⟩
    refine (calls_wide (ro := none) (edits_Check.calls (2 * l0.length + 1) _ _ l0 a1 a2 r2 _ HR0.out HC0.out HCK.out)).mono ?_
    rintro e w1 ⟨rfl, hb1⟩
    have HB1 := Aside0.mk hb1
    clear hb1
    gi_wp2
    refine ⟨_, results_tmp2 rfl _ _ _, .slice none 0 0, rfl, Kd.R_nil _ _ _ _ _, HB1.out⟩

theorem edits_Keep.calls (A0 : Option Addr) (c0 : Nat) (l0 : List S54) (a1 a2 : Int) (r1 : List Int) (r2 : Int) (w : World) (hr0 : Kd.C k54 w A0 l0.length l0) (hc0 : l0.length ≤ c0) (h : edits_Keep.f l0 a1 a2 = some (r1, r2)) :
    Calls Try.prog 15 #[.slice A0 l0.length c0, .int .i64 a1, .int .i64 a2] w fun e w' => ∃ v0_ : Value, e = .returned (.tuple #[v0_, .int .i64 r2]) ∧ Kd.R (Kd.int .i64) 3 w' w.heap.size (fun _ => True) v0_ r1 ∧ Below w.heap.size w w' :=
  callsIn_wide.1 (keep_in 6 (Nat.le_refl _) A0 c0 l0 a1 a2 r1 r2 w hr0 hc0 h)
end Go.Proofs.Ytpkhfeeelkhkaaa.X
