/-
  The contract of Read.
-/
import Derived.Test.YtppgbfkhiofjiaaED4
import Derived.Deep.Upon
namespace Go.Proofs.Ytppgbfkhiofjiaa.X
open Go.RowKit Go.Proofs.YtppgbfkhiofjiaaW.PrintWords Go.Proofs.YtppgbfkhiofjiaaW.PrintLast Go.Proofs.YtppgbfkhiofjiaaW.PrintMore
set_option linter.unusedVariables false
set_option linter.unusedSimpArgs false

/-- A block that is a sector. -/
def IsArr (w : World) (b : Nat) (l : List Int) : Prop := w.heap[b]? = some (.cells (nums .u8 l).toArray 91 (0, 0))
theorem IsArr.range {w : World} {b : Nat} {l : List Int} (h : IsArr w b l) : w.rangeAt b 0 (nums .u8 l) := fun j v hj => by
  rw [cell_of_row w b _ _ 91 (0, 0) h, Nat.zero_add, List.getElem?_toArray, hj]
theorem IsArr.there {w : World} {b : Nat} {l : List Int} (h : IsArr w b l) : w.there b 0 l.length := fun j hj => ⟨by
  rw [cell_of_row w b _ _ 91 (0, 0) h, Nat.zero_add, List.getElem?_toArray, List.getElem?_eq_getElem (by rw [nums_length]; exact hj)]
  rfl, frozen_of_row w b _ _ 91 h⟩
theorem IsArr.lt {w : World} {b : Nat} {l : List Int} (h : IsArr w b l) : b < w.heap.size := by
  unfold IsArr at h
  exact (Array.getElem?_eq_some_iff.1 h).1
theorem IsArr.kept {w w' : World} {b : Nat} {l : List Int} (h : IsArr w b l) (hk : w'.heap[b]? = w.heap[b]?) : IsArr w' b l := hk.trans h
/-- Another sector's bytes are laid over it. -/
theorem IsArr.put {w : World} {b : Nat} {l l' : List Int} (h : IsArr w b l) (hl : l'.length = l.length) : IsArr (w.setCells b 0 (nums .u8 l')) b l' := by
  obtain ⟨cur', h1, h2, h3⟩ := setCells_row (nums .u8 l') 0 w _ h (by simp [nums, hl])
  unfold IsArr
  rw [h1]
  congr 2
  apply Array.toList_inj.1
  rw [h3]
  simp [nums, hl]
theorem IsArr.new {w : World} {z : Array Value} (hz : z.size = 64) {l : List Int} (hl : l.length = 64) : IsArr ((w.alloc (.cells z 91)).setCells w.heap.size 0 (nums .u8 l)) w.heap.size l := by
  have hb : (w.alloc (.cells z 91)).heap[w.heap.size]? = some (.cells z 91 (0, 0)) := heap_alloc_new _ _
  obtain ⟨cur', h1, h2, h3⟩ := setCells_row (nums .u8 l) 0 _ _ hb (by simp [nums, hl, hz])
  unfold IsArr
  rw [h1]
  congr 2
  apply Array.toList_inj.1
  rw [h3]
  simp [nums, hl, hz]

theorem new91 {motive : World → Prop} (w : World) (z : Array Value) (l : List Int) (hz : z.size = 64) (hl : l.length = 64) (h : ∀ W, IsArr W w.heap.size l → Fr (fun _ => False) w W → motive W) :
    motive ((w.alloc (.cells z 91)).setCells w.heap.size 0 (nums .u8 l).toArray.toList) := by
  rw [List.toList_toArray]
  exact h _ (IsArr.new hz hl) (boxed (t := 91) (by rw [nums_length, hl, hz]) _).1
theorem there91 (w : World) (z : Array Value) (l : List Int) (hz : z.size = 64) (hl : l.length = 64) : (w.alloc (.cells z 91)).there w.heap.size 0 (nums .u8 l).toArray.size := (boxed (t := 91) (by rw [nums_length, hl, hz]) (fun _ => False)).2.2.2
theorem new93 {motive : World → Prop} (w : World) (z : Array Value) (t : TypeId) (vs : List Value) (hz : z.size = vs.length) (h : ∀ W, W.rangeAt w.heap.size 0 vs → w.heap.size < W.heap.size → Fr (fun _ => False) w W → motive W) :
    motive ((w.alloc (.cells z t)).setCells w.heap.size 0 vs.toArray.toList) := by
  rw [List.toList_toArray]
  have hb := boxed (w := w) (t := t) hz (fun _ => False)
  exact h _ hb.2.1 hb.2.2.1 hb.1
theorem there93 (w : World) (z : Array Value) (t : TypeId) (vs : List Value) (hz : z.size = vs.length) : (w.alloc (.cells z t)).there w.heap.size 0 vs.toArray.size := (boxed (t := t) hz (fun _ => False)).2.2.2
theorem put91 {motive : World → Prop} (w : World) (b : Nat) (l l' : List Int) (hb : IsArr w b l) (hl : l'.length = l.length) (h : ∀ W, IsArr W b l' → Fr (fun k => k = b) w W → motive W) :
    motive (w.setCells b 0 (nums .u8 l').toArray.toList) := by
  rw [List.toList_toArray]
  obtain ⟨a1, a2, a3, a4⟩ := setCells_same b (nums .u8 l') 0 w
  exact h _ (hb.put hl) ⟨a1, a2, a3, Nat.le_of_eq a4.symm, fun k hk hn => setCells_far (nums .u8 l') 0 k hn⟩

/-- What is read: the last pending write of the sector, or what lasts. -/
def readC (n : Int) : List (Int × List Int) → List Int → List Int
  | [], b => b
  | p :: c, b => readC n c (if p.1 = n then p.2 else b)
theorem readC_drop (n : Int) (c : List (Int × List Int)) (i : Nat) (p : Int × List Int) (h : c[i]? = some p) (b : List Int) : readC n (c.drop i) b = readC n (c.drop (i + 1)) (if p.1 = n then p.2 else b) := by
  obtain ⟨hi, e⟩ := List.getElem?_eq_some_iff.1 h
  rw [List.drop_eq_getElem_cons hi, e]
  rfl
theorem IsMapOf.look {w : World} {m u : Nat} {f : Int → List Int} (h : IsMapOf w m u f) {n : Int} (hn : (Lit.int .i64 n).wf = true) :
    (Instr.lookup 85 (.map (some m)) (.int .i64 n) false).run Try.prog w = .ok (.agg (nums .u8 (f n)).toArray) w := by
  obtain ⟨D, h1, h2, h3⟩ := h
  obtain ⟨v, ps, hr, hv⟩ := h1.lookup (z := arr zeros64) (zd := .held (arr zeros64)) (zp := []) (Maps.int_keyed Try.underlying3) Try.underlying85 (by kernel_rfl) rfl (Maps.keyOf_int_mk Try.underlying3 hn)
  rw [h3 n] at hv
  unfold asIs at hv
  simp only [Option.some.injEq, Prod.mk.injEq, DataW.held.injEq] at hv
  rw [hr, hv.1]
  rfl
theorem IsDisk.good {w : World} {B : Nat → Prop} {g : Nat} {D : DS} (h : IsDisk w B g D) : Good D.c ∧ ∀ i, (D.f i).length = 64 := by
  obtain ⟨_, _, _, _, _, _, _, _, h7, h8, _⟩ := h
  exact ⟨h7, h8⟩

theorem read_bad (g : Nat) (B : Nat → Prop) (D : DS) (n : Int) (w : World) (h : IsDisk w B g D) (h1 : lookD D n ≠ 0) :
    Calls Try.prog 18 #[.pointer (some ⟨g, 0, none⟩), .int .i64 n] w fun e w' => e = .returned (.tuple #[.slice none 0 0, .int .i64 (lookD D n)]) ∧ Drawn0 w w' := by
  have LK := Aside0.mk (look_calls g B D n w h)
  obtain ⟨e0, he0⟩ : ∃ e0, lookD D n = e0 := ⟨_, rfl⟩
  rw [he0] at h1 LK ⊢
  have h1b : (e0 != 0) = true := by simpa using h1
  clear he0 h
  go_enter Try.func18, Try.ntmps18
  go_wp2_with fail
  refine LK.out.mono ?_
  rintro e w' ⟨rfl, ⟨nq, rfl⟩⟩
  go_wp2
  go_ret2
  exact ⟨rfl, ⟨nq, rfl⟩⟩

set_option maxHeartbeats 4000000 in
set_option maxRecDepth 100000 in
theorem read_calls (g : Nat) (B : Nat → Prop) (D : DS) (n : Int) (w : World) (h : IsDisk w B g D) (h1 : lookD D n = 0) (hwf : (Lit.int .i64 n).wf = true) (hc : D.c.length ≤ 1000000) :
    Calls Try.prog 18 #[.pointer (some ⟨g, 0, none⟩), .int .i64 n] w fun e w' => ∃ gb, e = .returned (.tuple #[.slice (some ⟨gb, 0, none⟩) 64 64, .int .i64 0]) ∧ w.heap.size ≤ gb ∧ IsArr w' gb (readC n D.c (D.f n)) ∧ Fr (fun _ => False) w w' := by
  have LK := Aside0.mk (look_calls g B D n w h)
  rw [h1] at LK
  obtain ⟨m, cv, c0, c1, c2, c3, c4, c5, cf, hlt, im, own, ob, bm, bg⟩ := h.cells
  have H := Aside0.mk h
  have hGG := h.good
  obtain ⟨N, hN⟩ : ∃ N, D.c.length = N := ⟨_, rfl⟩
  have HN := Aside0.mk hN
  rw [hN] at hc own
  obtain ⟨A, cap, rfl⟩ : ∃ A cap, cv = .slice A N cap := by
    rcases own.2 with ⟨rfl, rfl⟩ | ⟨gb, cap, cur, rfl, _⟩
    · exact ⟨none, 0, rfl⟩
    · exact ⟨_, _, rfl⟩
  have HLK : Aside0 (∀ nq, (Instr.lookup 85 (.map (some m)) (.int .i64 n) false).run Try.prog (w.drewN nq) = .ok (.agg (nums .u8 (D.f n)).toArray) (w.drewN nq)) := ⟨fun nq => IsMapOf.look (w := w.drewN nq) im hwf⟩
  have HG := Aside0.mk hGG
  have hl64 : Aside0 ((D.f n).length = 64) := ⟨hGG.2 n⟩
  have u91 := Try.underlying91
  have i91 : (Try.prog.info? 91).map (·.size) = some (nums .u8 (D.f n)).length := by rw [nums_length, hl64.out]; exact info91
  have hone : ∀ (l : List Int), ∀ v ∈ nums .u8 l, v.oneCell' = true := fun l v hv => by
    obtain ⟨x, _, rfl⟩ := List.mem_map.1 hv
    rfl
  have HONE := Aside0.mk hone
  have C2 := Aside0.mk c2
  clear c0 c3 c4 c5 cf im own ob bm bg h hN hGG hone
  go_enter Try.func18, Try.ntmps18
  go_wp2_with fail
  refine LK.out.mono ?_
  rintro e w' ⟨rfl, ⟨nq, rfl⟩⟩
  have hlk2 : (Instr.lookup 85 (.map (some m)) (.int .i64 n) false).run Try.prog (w.drewN nq) = .ok (.agg (nums .u8 (D.f n)).toArray) (w.drewN nq) := HLK.out nq
  go_wp2_with ((with_reducible refine gate_store (t := 91) (p := 7) rfl ?_); refine wpList_store_mid rfl 91 (.tmp 7) (.tmp 21) rfl w.heap.size 0 (nums .u8 (D.f n)).toArray rfl rfl (there91 (w.drewN nq) _ (D.f n) (by rfl) hl64.out) (by rw [i91]; rfl) (all_oneCell_toArray (HONE.out _)) ?_; refine new91 (motive := fun W => wpList _ _ _ _ _ W) (w.drewN nq) _ (D.f n) (by rfl) hl64.out (fun W HA HF => ?_); have c2W : W.cell? ⟨g, 2, none⟩ = some (.slice A N cap) := (World.cell?_of_block (w := w) (HF.keep g hlt (fun h => h))).trans C2.out)
  have HB0 : Aside0 (IsArr W w.heap.size (D.f n)) := ⟨HA⟩
  have HF0 : Aside0 (Fr (fun _ => False) w W) := ⟨HF.drewN'⟩
  clear c1 c2 c2W hlk2 i91 HA HF HLK hl64
  go_loopg [27] N (fun kq v27 w' => ∃ (i : Nat) (b : List Int), v27 = .int .i64 (i : Int) ∧ Aside0 (i + kq = N) ∧ Aside0 (readC n (D.c.drop i) b = readC n D.c (D.f n)) ∧ Aside0 (b.length = 64) ∧
      Aside0 (IsArr w' w.heap.size b) ∧ Aside0 (Fr (fun _ => False) w w'))
  case atStart => exact ⟨0, D.f n, rfl, ⟨by omega⟩, ⟨by rw [List.drop_zero]⟩, ⟨HG.out.2 n⟩, HB0, HF0⟩
  case round =>
    clear HB0 HF0
    obtain ⟨i, b, rfl, HI, HS, HL, HB, HF⟩ := hrel
    cases gk with
    | zero =>
      have hi : i = N := by have := HI.out; omega
      have hge : decide (i < N) = false := by simp; omega
      have R : Aside0 (b = readC n D.c (D.f n)) := ⟨by
        have hs := HS.out
        rw [List.drop_of_length_le (by have := HN.out; have := HI.out; omega)] at hs
        exact hs⟩
      go_wp2
      go_ret2
      exact ⟨w.heap.size, rfl, Nat.le_refl _, R.out ▸ HB.out, HF.out⟩
    | succ k1 =>
      have hlt3 : decide ((i : Int) < (N : Int)) = true := by have := HI.out; simp; omega
      obtain ⟨p, hp⟩ : ∃ p, D.c[i]? = some p := ⟨_, List.getElem?_eq_getElem (by have := HN.out; have := HI.out; omega)⟩
      have HD := H.out.fr HF.out (fun _ _ h => h)
      obtain ⟨m', cv', c0, c1, c2, c3, c4, c5, cf, hltg, im, own, ob, bm, bg⟩ := HD.cells
      have e := (World.cell?_of_block (w := w) (a := ⟨g, 2, none⟩) (HF.out.keep g hlt (fun h => h))).trans C2.out
      rw [c2] at e
      injection e with e
      subst e
      obtain ⟨gb, cap', e, hr⟩ := HD.at own hp
      injection e with e1 e2 e3
      subst e1
      have HP := Aside0.mk hp
      have hi0 : (0 : Int) ≤ (i : Int) := by omega
      have hi1 : (i : Int) < (N : Int) := by have := HI.out; omega
      have u93 := Try.underlying93
      have hGp := HG.out.1 p (List.mem_of_getElem? hp)
      have hlp : Aside0 ((encP p).length = 65) := ⟨encP_length hGp.1⟩
      have h64 : Aside0 (p.2.length = 64) := ⟨hGp.1⟩
      have i93 : (Try.prog.info? 93).map (·.size) = some (encP p).length := by rw [hlp.out]; kernel_rfl
      have i91 : (Try.prog.info? 91).map (·.size) = some (nums .u8 p.2).length := by rw [nums_length, h64.out]; exact info91
      have hwlt : Aside0 (w.heap.size < wr.heap.size) := ⟨HB.out.lt⟩
      have HS3 : Aside0 (readC n (D.c.drop (i + 1)) (if p.1 = n then p.2 else b) = readC n D.c (D.f n)) := ⟨by rw [← HS.out, readC_drop _ _ _ _ hp]⟩
      have HI3 : Aside0 (i + 1 + k1 = N) := ⟨by have := HI.out; omega⟩
      have hwr : Aside0 (wrap64 ((i : Int) + 1) = ((i + 1 : Nat) : Int)) := ⟨by have := HI.out; unfold wrap64; omega⟩
      clear c0 c1 c2 c3 c4 c5 cf im own ob bm bg e2 e3 hp HD hGp
      by_cases hpn : p.1 = n
      · rw [if_pos hpn] at HS3
        have hpb : (p.1 == n) = true := by simpa using hpn
        have HPN := Aside0.mk hpn
        clear hpn
        go_wp2_with (first
          | ((with_reducible refine gate_dst (N := 30) rfl ?_); refine wpList_load_mid rfl 93 (.tmp 29) rfl gb (i * 65) rfl (encP p) _ hr u93 rfl i93 ?_; clear hr)
          | ((with_reducible refine gate_store (t := 93) (p := 9) rfl ?_); refine wpList_store_mid rfl 93 (.tmp 9) (.tmp 30) rfl wr.heap.size 0 (encP p).toArray rfl rfl (there93 wr _ 93 (encP p) (by rw [hlp.out]; rfl)) (by rw [i93]; rfl) (all_oneCell_toArray (one_encP p)) ?_; refine new93 (motive := fun W => wpList _ _ _ _ _ W) wr _ 93 (encP p) (by rw [hlp.out]; rfl) (fun W1 hr1 hs1 hf1 => ?_); have hb0 : W1.cell? ⟨wr.heap.size, 0, none⟩ = some (.int .i64 p.1) := hr1 0 _ rfl; have HF1 := Aside0.mk hf1; have HR1 := Aside0.mk hr1; clear hr1 hf1)
          | ((with_reducible refine gate_dst (N := 36) rfl ?_); refine wpList_load_mid rfl 91 (.tmp 35) rfl wr.heap.size 1 rfl (nums .u8 p.2) _ (fun j v hj => (by
              have := HR1.out (j + 1) v (by simpa [encP] using hj)
              rwa [show 0 + (j + 1) = 1 + j by omega] at this)) u91 rfl i91 ?_; clear hb0)
          | ((with_reducible refine gate_store (t := 91) (p := 7) rfl ?_); have HB1 : IsArr W1 w.heap.size b := HB.out.kept (HF1.out.keep _ hwlt.out (fun h => h)); refine wpList_store_mid rfl 91 (.tmp 7) (.tmp 36) rfl w.heap.size 0 (nums .u8 p.2).toArray rfl rfl (by have := HB1.there; rwa [HL.out, ← h64.out, ← nums_length .u8] at this) (by rw [i91]; rfl) (all_oneCell_toArray (HONE.out _)) ?_; refine put91 (motive := fun W => wpList _ _ _ _ _ W) W1 w.heap.size b p.2 HB1 (h64.out.trans HL.out.symm) (fun W2 HA2 HF2 => ?_); clear HB1))
        have HA3 := Aside0.mk HA2
        have HF3 : Aside0 (Fr (fun _ => False) w W2) := ⟨(HF.out.trans HF1.out (fun _ h => .inl h)).trans HF2 (fun k h => .inr (by rw [h]; exact Nat.le_refl _))⟩
        clear HA2 HF2
        go_roundg k1
        case measure => omega
        case rel => exact ⟨i + 1, p.2, by go_num, HI3, HS3, h64, HA3, HF3⟩
      · rw [if_neg hpn] at HS3
        have hpb : (p.1 == n) = false := by simpa using hpn
        have HPN := Aside0.mk hpn
        clear hpn
        go_wp2_with (first
          | ((with_reducible refine gate_dst (N := 30) rfl ?_); refine wpList_load_mid rfl 93 (.tmp 29) rfl gb (i * 65) rfl (encP p) _ hr u93 rfl i93 ?_; clear hr)
          | ((with_reducible refine gate_store (t := 93) (p := 9) rfl ?_); refine wpList_store_mid rfl 93 (.tmp 9) (.tmp 30) rfl wr.heap.size 0 (encP p).toArray rfl rfl (there93 wr _ 93 (encP p) (by rw [hlp.out]; rfl)) (by rw [i93]; rfl) (all_oneCell_toArray (one_encP p)) ?_; refine new93 (motive := fun W => wpList _ _ _ _ _ W) wr _ 93 (encP p) (by rw [hlp.out]; rfl) (fun W1 hr1 hs1 hf1 => ?_); have hb0 : W1.cell? ⟨wr.heap.size, 0, none⟩ = some (.int .i64 p.1) := hr1 0 _ rfl; have HF1 := Aside0.mk hf1; have HR1 := Aside0.mk hr1; clear hr1 hf1))
        have HA3 : Aside0 (IsArr W1 w.heap.size b) := ⟨HB.out.kept (HF1.out.keep _ hwlt.out (fun h => h))⟩
        have HF3 : Aside0 (Fr (fun _ => False) w W1) := ⟨HF.out.trans HF1.out (fun _ h => .inl h)⟩
        go_roundg k1
        case measure => omega
        case rel => exact ⟨i + 1, b, by go_num, HI3, HS3, HL, HA3, HF3⟩
end Go.Proofs.Ytppgbfkhiofjiaa.X
