/-
  The contract of strings.SplitAfter at one line feed: the pieces, in a row of the call's own.
-/
import Derived.Test.YtkodamaoklaibaaDoorLib
import Derived.WalkKit
namespace Go.Proofs.YtkodamaoklaibaaDoor.X
open Go.RowKit Go.Proofs.YtkodamaoklaibaaDoorW.PrintWords Go.Proofs.YtkodamaoklaibaaDoorW.PrintLast Go.Proofs.YtkodamaoklaibaaDoorW.PrintMore
open Go.Shelf Go.Lib
set_option linter.unusedVariables false

def feed1 : ByteArray := ⟨#[10]⟩
def strings_SplitAfter.f (a0 a1 : ByteArray) : Option (List ByteArray) := if a1.data = #[10] ∧ a0.size < 4294967281 then some (Lib.splitB feed1 1 (Lib.countB a0 feed1) a0) else none

theorem index_feed (x : ByteArray) (w : World) : Calls Tryd.prog 19 #[.string x, .string feed1] w fun e w' => e = .returned (.int .i64 (Lib.indexB x feed1)) ∧ w' = w := by
  refine (Tryd.strings_Index_one x 10 w).mono fun e w' ⟨he, hw⟩ => ⟨?_, hw⟩
  rw [he]
  show _ = Ending.returned (Value.int .i64 (Lib.index x.data.toList [10]))
  rw [Lib.index_one]
theorem count_feed (x : ByteArray) (w : World) : Calls Tryd.prog 16 #[.string x, .string feed1] w fun e w' => e = .returned (.int .i64 (Lib.countB x feed1)) ∧ w' = w := by
  refine (Tryd.strings_Count_one x 10 w).mono fun e w' ⟨he, hw⟩ => ⟨?_, hw⟩
  rw [he]
  show _ = Ending.returned (Value.int .i64 ((Lib.count x.data.toList [10] : Nat) : Int))
  rw [Lib.count_one]
  rfl
theorem countB_le (s : ByteArray) : Lib.countB s feed1 ≤ s.size := by
  show Lib.count s.data.toList [10] ≤ _
  rw [Lib.count_one]
  exact List.count_le_length

theorem gen_feed (s : ByteArray) (w : World) (hs : s.size < 4294967281) :
    Calls Tryd.prog 20 #[.string s, .string feed1, .int .i64 1, .int .i64 (-1)] w fun e w' =>
      e = .returned (.slice (some ⟨w.heap.size, 0, none⟩) (Lib.splitB feed1 1 (Lib.countB s feed1) s).length (Lib.countB s feed1 + 1)) ∧ w' = w.alloc (.cells (Lib.cellsOf (Lib.splitB feed1 1 (Lib.countB s feed1) s) (Lib.countB s feed1 + 1)) 9) := by
  have hle := countB_le s
  have c := Any.strings_genSplit_core Tryd.lays221 (by kernel_rfl) s feed1 1 (-1) (Lib.countB s feed1 + 1) w hs (by decide) (by decide) (fun x c _ => index_feed x _) (count_feed s w) (by decide) (by decide)
    (by rw [if_pos (by decide)]; omega)
  rw [Nat.add_sub_cancel] at c
  exact c

set_option maxHeartbeats 1000000 in
theorem splitAfter_calls (s : ByteArray) (w : World) (hs : s.size < 4294967281) :
    Calls Tryd.prog 15 #[.string s, .string feed1] w fun e w' =>
      e = .returned (.slice (some ⟨w.heap.size, 0, none⟩) (Lib.splitB feed1 1 (Lib.countB s feed1) s).length (Lib.countB s feed1 + 1)) ∧ w' = w.alloc (.cells (Lib.cellsOf (Lib.splitB feed1 1 (Lib.countB s feed1) s) (Lib.countB s feed1 + 1)) 9) := by
  have c := gen_feed s w hs
  go_enter Tryd.func15, Tryd.ntmps15
  go_wp2_with (go_at_call 20; refine c.mono ?_; rintro e w' ⟨rfl, hw⟩; rw [hw])
  go_ret
  exact ⟨rfl, rfl⟩

theorem strings_SplitAfter.calls (a0 a1 : ByteArray) (r : List ByteArray) (w : World) (h : strings_SplitAfter.f a0 a1 = some r) :
    Calls Tryd.prog 15 #[.string a0, .string a1] w fun e w' => ∃ v0_ : Value, e = .returned v0_ ∧ Kd.R Kd.string 9 w' w.heap.size (fun _ => True) v0_ r ∧ Below w.heap.size w w' := by
  unfold strings_SplitAfter.f at h
  split at h
  · rename_i hc
    obtain ⟨hd, hs⟩ := hc
    obtain ⟨d⟩ := a1
    dsimp only at hd
    subst hd
    injection h with h
    subst h
    refine (splitAfter_calls a0 w hs).mono fun e w' ⟨he, hw⟩ => ⟨_, he, ?_, ?_⟩
    · have hle := countB_le a0
      have hlen := Lib.splitB_length_le feed1 1 (Lib.countB a0 feed1) a0
      generalize Lib.splitB feed1 1 (Lib.countB a0 feed1) a0 = xs at *
      have hsz := Lib.cellsOf_size (done := xs) (N := Lib.countB a0 feed1 + 1) hlen
      have z1 : ∀ n : Nat, n * Kd.string.sz = n := fun n => Nat.mul_one n
      refine ⟨fun _ _ => trivial, xs.map Value.string, ⟨by rw [z1, List.length_map], .inr ⟨w.heap.size, _, _, rfl, Nat.le_refl _, by rw [hw]; exact (MapKept.heap_alloc w _).1, hlen, by unfold maxLen; omega, by rw [hsz, z1], ?_⟩⟩, ⟨by rw [z1, List.length_map], fun j p hj => ?_⟩⟩
      · rw [z1]
        simp [Lib.cellsOf]
      · obtain ⟨hj1, hj2⟩ := List.getElem?_eq_some_iff.1 hj
        rw [z1]
        show List.take 1 _ = [Value.string p]
        rw [List.drop_eq_getElem_cons (by simpa using hj1)]
        simp [hj2]
    · rw [hw]
      exact (Below.refl _ _).alloc (Nat.le_refl _) _
  · cases h
end Go.Proofs.YtkodamaoklaibaaDoor.X
