/-
  The contract of Pending.
-/
import Derived.Test.YtppgbfkhiofjiaaED9
namespace Go.Proofs.Ytppgbfkhiofjiaa.X
open Go.RowKit Go.Proofs.YtppgbfkhiofjiaaW.PrintWords Go.Proofs.YtppgbfkhiofjiaaW.PrintLast Go.Proofs.YtppgbfkhiofjiaaW.PrintMore
set_option linter.unusedVariables false
set_option linter.unusedSimpArgs false

theorem info3' : (Try.prog.info? 3).map (fun i => (i.zero, i.size, i.bytes)) = some (some (.int .i64 0), 1, 8) := by kernel_rfl
def keysC (c : List (Int × List Int)) : List Int := c.map (·.1)

set_option maxHeartbeats 4000000 in
set_option maxRecDepth 100000 in
theorem pending_calls (g : Nat) (B : Nat → Prop) (D : DS) (w : World) (h : IsDisk w B g D) (hc : D.c.length ≤ 1000000) :
    Calls Try.prog 20 #[.pointer (some ⟨g, 0, none⟩)] w fun e w' => ∃ v, e = .returned v ∧ w'.ownsRow w.heap.size 3 1 v D.c.length (nums .i64 (keysC D.c)) ∧ Fr (fun _ => False) w w' := by
  obtain ⟨m, cv, c0, c1, c2, c3, c4, c5, cf, hlt, im, own, ob, bm, bg⟩ := h.cells
  have H := Aside0.mk h
  have hGG := h.good
  obtain ⟨N, hN⟩ : ∃ N, D.c.length = N := ⟨_, rfl⟩
  have HN := Aside0.mk hN
  rw [hN] at hc own
  obtain ⟨A, cap, rfl⟩ : ∃ A cap, cv = .slice A N cap := by
    rcases own.2 with ⟨rfl, rfl⟩ | ⟨gb, cap, cur, rfl, _⟩
    · exact ⟨none, 0, rfl⟩
    · exact ⟨_, _, rfl⟩
  have HG := Aside0.mk hGG
  have C2 := Aside0.mk c2
  have HF0 := Aside0.mk (Fr.refl (fun _ => False) w)
  clear c0 c1 c3 c4 c5 cf im own ob bm bg h hN hGG
  go_enter Try.func20, Try.ntmps20
  go_wp2_with fail
  go_loopg [3, 11] N (fun kq v3 v11 w' => ∃ (i : Nat) (A3 : Option Addr) (c3 : Nat), v3 = .slice A3 i c3 ∧ v11 = .int .i64 (i : Int) ∧ Aside0 (i + kq = N) ∧ Aside0 (w'.ownsRow w.heap.size 3 1 (.slice A3 i c3) i (nums .i64 (keysC (D.c.take i)))) ∧ Aside0 (Fr (fun _ => False) w w'))
  case atStart => exact ⟨0, none, 0, rfl, rfl, ⟨by omega⟩, ⟨⟨rfl, .inl ⟨rfl, rfl⟩⟩⟩, HF0⟩
  case round =>
    clear HF0
    obtain ⟨i, A3, c3, rfl, rfl, HI, HO, HF⟩ := hrel
    cases gk with
    | zero =>
      have hi : i = N := by have := HI.out; omega
      subst hi
      go_wp2_with fail
      go_ret
      refine ⟨_, rfl, ?_, HF.out⟩
      have := HO.out
      rw [List.take_of_length_le (by rw [HN.out]; exact Nat.le_refl _)] at this
      rw [HN.out]
      exact this
    | succ k1 =>
      have hi : i < N := by have := HI.out; omega
      have hi0 : (0 : Int) ≤ (i : Int) := by omega
      have hi1 : (i : Int) < (N : Int) := by omega
      obtain ⟨p, hp⟩ : ∃ p, D.c[i]? = some p := ⟨_, List.getElem?_eq_getElem (by have := HN.out; omega)⟩
      have HD := H.out.fr HF.out (fun _ _ h => h)
      obtain ⟨m', cv', c0, c1, c2, c3', c4, c5, cf, hltg, im, own, ob, bm, bg⟩ := HD.cells
      have e := (World.cell?_of_block (w := w) (a := ⟨g, 2, none⟩) (HF.out.keep g hlt (fun h => h))).trans C2.out
      rw [c2] at e
      injection e with e
      subst e
      obtain ⟨gb, cap', e, hr⟩ := HD.at own hp
      injection e with e1 e2 e3
      subst e1
      have u93 := Try.underlying93
      have hGp := HG.out.1 p (List.mem_of_getElem? hp)
      have hlp : Aside0 ((encP p).length = 65) := ⟨encP_length hGp.1⟩
      have i93 : (Try.prog.info? 93).map (·.size) = some (encP p).length := by rw [hlp.out]; kernel_rfl
      have HT : Aside0 (nums .i64 (keysC (D.c.take (i + 1))) = nums .i64 (keysC (D.c.take i)) ++ [.int .i64 p.1]) := ⟨by
        rw [List.take_add_one, hp]
        simp [keysC, nums]⟩
      have HI3 : Aside0 (i + 1 + k1 = N) := ⟨by have := HI.out; omega⟩
      have hone : ∀ u ∈ [Value.int .i64 p.1], u.oneCell' = true := fun u hu => by
        rw [List.mem_singleton.1 hu]
        rfl
      clear c0 c1 c2 c3' c4 c5 cf im own ob bm bg e2 e3 hp HD hGp
      go_wp2_with (first
        | ((with_reducible refine gate_dst (N := 14) rfl ?_); refine wpList_load_mid rfl 93 (.tmp 13) rfl gb (i * 65) rfl (encP p) _ hr u93 rfl i93 ?_; clear hr)
        | ((with_reducible refine gate_store (t := 93) (p := 5) rfl ?_); refine wpList_store_mid rfl 93 (.tmp 5) (.tmp 14) rfl wr.heap.size 0 (encP p).toArray rfl rfl (there93 wr _ 93 (encP p) (by rw [hlp.out]; rfl)) (by rw [i93]; rfl) (all_oneCell_toArray (one_encP p)) ?_; refine new93 (motive := fun W => wpList _ _ _ _ _ W) wr _ 93 (encP p) (by rw [hlp.out]; rfl) (fun W1 hr1 hs1 hf1 => ?_); have hb0 : W1.cell? ⟨wr.heap.size, 0, none⟩ = some (.int .i64 p.1) := hr1 0 _ rfl; have HF1 := Aside0.mk hf1; clear hr1 hf1)
        | ((with_reducible refine gate_builtin (b := .append) (xs := #[.tmp 15, .tmp 18]) rfl ?_); at_builtin; refine wpList_append_own rfl (.tmp 15) (.tmp 18) 45 rfl w.heap.size 3 (.int .i64 0) 1 8 Try.underlying45 info3' rfl (by omega) (.slice A3 i c3) i (nums .i64 (keysC (D.c.take i))) rfl (ownsRow_kept HO.out (fun k e => (Below.heap_alloc _ _ _ (Nat.lt_of_lt_of_le (q_lt (q_of_own HO.out) k e) HF1.out.size)).trans (HF1.out.keep k (q_lt (q_of_own HO.out) k e) (fun h => h)))) ⟨W1.heap.size, 0, none⟩ 1 1 [.int .i64 p.1] rfl rfl (World.news_of_block (cs := #[.int .i64 p.1]) (t := 3) (fr := (0, 0)) (heap_alloc_new _ _)) hone (by unfold maxLen; omega) (by omega) (by have := HF.out.size; have := HF1.out.size; simp; omega) ?_; intro v' w' h2 h3 h4; have H2 := Aside0.mk h2; have H3 := Aside0.mk h3; clear h2 h3 h4))
      obtain ⟨A4, c4, rfl, _⟩ := q_slice (q_of_own H2.out)
      have HO4 : Aside0 (w'.ownsRow w.heap.size 3 1 (.slice A4 (i + 1) c4) (i + 1) (nums .i64 (keysC (D.c.take (i + 1))))) := ⟨by rw [HT.out]; exact H2.out⟩
      have HF4 : Aside0 (Fr (fun _ => False) w w') := ⟨((HF.out.trans HF1.out (fun k h => .inl h)).alloc _).trans (Fr.of_grownBy H3.out) (fun k h => .inr (q_typed (q_of_own HO.out) k h).1)⟩
      clear H2 H3 hb0
      go_roundg k1
      case measure => omega
      case rel => exact ⟨i + 1, A4, c4, rfl, by go_num, HI3, HO4, HF4⟩
end Go.Proofs.Ytppgbfkhiofjiaa.X
