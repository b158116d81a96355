/-
  The walk of JournalSums: it returns true where the two check sums agree and the two fixed sums are as told.
-/
import Derived.Test.YtppgbfkhiofjiaaX2
import Derived.Test.YtppgbfkhiofjiaaESum
import Derived.Lib.SlBytesConst
import Derived.Lib.SmallJoins
namespace Go.Proofs.Ytppgbfkhiofjiaa.X
open Go.RowKit Go.Proofs.YtppgbfkhiofjiaaW.PrintWords Go.Proofs.YtppgbfkhiofjiaaW.PrintLast Go.Proofs.YtppgbfkhiofjiaaW.PrintMore
set_option linter.unusedVariables false

/-- A row of bytes in a block that bears a conversion's mark is read as the bytes. -/
theorem reads_marked (w : World) (xs : List Int) (fr : Nat × Nat) (hl : xs.length ≤ 9223372036854775807) :
    Kd.C (Kd.int .u8) (w.alloc (.cells (nums .u8 xs).toArray 5 fr)) (some ⟨w.heap.size, 0, none⟩) xs.length xs := by
  refine Kd.C_of_reads (d := (0 : Int)) (h1 := fun _ => rfl) ⟨rfl, hl, fun _ => ⟨_, rfl, fun j hj => ?_⟩⟩
  rw [add_plain, World.cell?_alloc_mark]
  simp [nums, List.getD_eq_getElem?_getD, List.getElem?_eq_getElem hj]

set_option maxHeartbeats 400000 in
set_option maxRecDepth 100000 in
theorem JournalSums_calls (k : Nat) (A0 : Option Addr) (c0 : Nat) (l0 : List Int) (r : Int) (w : World) (hr0 : Kd.C (Kd.int .u8) w A0 l0.length l0) (hc0 : l0.length ≤ c0)
    (h1 : journal_Sum.f l0 = some r) (h2 : redlineref24_Sum.f k l0 = some r) (h3 : journal_Sum.f [49, 50, 51, 52, 53, 54, 55, 56, 57] = some 3421780262) (h4 : journal_Sum.f [] = some 0) :
    Calls Try.prog 3 #[.slice A0 l0.length c0] w fun e w' => e = .returned (.bool true) ∧ Below w.heap.size w w' := by
  have HR0 := Aside0.mk hr0
  have HC0 := Aside0.mk hc0
  have H1 := Aside0.mk h1
  have H2 := Aside0.mk h2
  have H3 := Aside0.mk h3
  have H4 := Aside0.mk h4
  clear hr0 hc0 h1 h2 h3 h4
  have kc := fun (W : World) (C : Array Value) (n c g : Nat) (hg : g = W.heap.size) => Joins.run_convert_bytes_const_at (P := Try.prog) W 22 5 C n c g hg Try.underlying22 Try.underlying5
  go_enter Try.func3, Try.ntmps3
  go_wp2_with fail
  refine (journal_Sum.calls _ _ l0 r _ HR0.out HC0.out H1.out).mono ?_
  rintro e w' ⟨rfl, ⟨n1, rfl⟩⟩
  go_wp2_with fail
  refine (redlineref24_Sum.calls k _ _ l0 r _ ?side1 ?side2 H2.out).mono ?_
  case side1 => exact Kd.C_drewN HR0.out _
  case side2 => exact HC0.out
  rintro e w' ⟨rfl, ⟨n2, rfl⟩⟩
  go_wp2_with fail
  have kd := kc (w.drewN (n1 + n2)) (nums .u8 [49, 50, 51, 52, 53, 54, 55, 56, 57]).toArray 9 9 w.heap.size (by simp)
  have hr := reads_marked (w.drewN (n1 + n2)) [49, 50, 51, 52, 53, 54, 55, 56, 57] (9, 10) (by decide)
  have hb : Below w.heap.size w ((w.drewN (n1 + n2)).alloc (.cells (nums .u8 [49, 50, 51, 52, 53, 54, 55, 56, 57]).toArray 5 (9, 10))) := (pw_below_drewN (Below.refl _ _) _).alloc (by simp) _
  refine (congrArg (fun r => Oper.upon _ _ _ _ _ (Result.andThen r _)) kd).mpr ?_
  clear kd kc
  rw [show (nums .u8 [49, 50, 51, 52, 53, 54, 55, 56, 57]).toArray.size = 9 from rfl]
  revert hr hb
  generalize hW : (w.drewN (n1 + n2)).alloc (.cells (nums .u8 [49, 50, 51, 52, 53, 54, 55, 56, 57]).toArray 5 (9, 9 + 1)) = W1
  intro hr hb
  have HR := Aside0.mk hr
  have HB := Aside0.mk hb
  clear hr hb hW
  go_wp2_with fail
  refine (journal_Sum.calls _ _ [49, 50, 51, 52, 53, 54, 55, 56, 57] 3421780262 _ HR.out (by decide) H3.out).mono ?_
  rintro e w' ⟨rfl, ⟨n3, rfl⟩⟩
  go_wp2_with fail
  refine (journal_Sum.calls _ _ [] 0 _ (Kd.C_nil _ _) (Nat.le_refl _) H4.out).mono ?_
  rintro e w' ⟨rfl, ⟨n4, rfl⟩⟩
  go_wp2
  go_ret
  exact ⟨rfl, pw_below_drewN HB.out _⟩
end Go.Proofs.Ytppgbfkhiofjiaa.X
