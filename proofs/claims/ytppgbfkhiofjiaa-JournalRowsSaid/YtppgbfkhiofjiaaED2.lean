/-
  Building a pending write, and the contract of Write.
-/
import Derived.Test.YtppgbfkhiofjiaaED1
import Derived.Deep.RegionHeld3
import Derived.Deep.AppendLies
import Derived.Outline
namespace Go.Proofs.Ytppgbfkhiofjiaa.X
open Go.RowKit Go.Proofs.YtppgbfkhiofjiaaW.PrintWords Go.Proofs.YtppgbfkhiofjiaaW.PrintLast Go.Proofs.YtppgbfkhiofjiaaW.PrintMore
set_option linter.unusedVariables false
set_option linter.unusedSimpArgs false

theorem info93 : (Try.prog.info? 93).map (fun i => (i.zero, i.size, i.bytes)) = some (some (.agg (Value.int .i64 0 :: List.replicate 64 (Value.int .u8 0)).toArray), 65, 72) := by kernel_rfl
theorem info91 : (Try.prog.info? 91).map (·.size) = some 64 := by kernel_rfl

/-- Cells laid one behind the other. -/
theorem lay_cells (off : Nat) : ∀ (vs : List Value) (k : Nat) (cs : Array Value), off + k + vs.length ≤ cs.size →
    ((vs.zipIdx k).foldl (fun cs (x : Value × Nat) => cs.setIfInBounds (off + x.2) x.1) cs).toList = cs.toList.take (off + k) ++ vs ++ cs.toList.drop (off + k + vs.length)
  | [], k, cs, h => by simp
  | v :: vs, k, cs, h => by
    have ih := lay_cells off vs (k + 1) (cs.setIfInBounds (off + k) v) (by simp at h ⊢; omega)
    rw [List.zipIdx_cons, List.foldl_cons, ih]
    have hl : off + k < cs.toList.length := by simp at h ⊢; omega
    rw [Array.toList_setIfInBounds, List.take_set, List.drop_set_of_lt (by omega), show off + (k + 1) = off + k + 1 by omega, List.take_add_one, List.getElem?_eq_getElem hl]
    simp only [Option.toList, List.length_cons]
    rw [List.set_append_right _ _ (by rw [List.length_take]; omega), List.length_take, show off + k - min (off + k) cs.toList.length = 0 by omega, List.set_cons_zero, List.append_assoc, List.append_assoc, show off + k + 1 + vs.length = off + k + (vs.length + 1) by omega]
    simp
theorem zero93 (w : World) : (zeroValue 93).run Try.prog w = .ok (.agg (Value.int .i64 0 :: List.replicate 64 (Value.int .u8 0)).toArray) w := by kernel_rfl
theorem places93 (w : World) : (Array.mapM (m := Sem) (fun (f : Field) => do pure (f.offset, ← sizeOf f.type)) #[({ name := "n", type := 3, offset := 0, embedded := false, tag := "", pkgPath := "redline/disk", byteOffset := 0 } : Field), { name := "b", type := 91, offset := 1, embedded := false, tag := "", pkgPath := "redline/disk", byteOffset := 8 }]).run Try.prog w = .ok #[(0, 1), (1, 64)] w := by kernel_rfl
theorem fill_cons {place : Nat → Option (Nat × Nat)} {cells : Array Value} {i : Nat} {v : Value} {rest : List (Nat × Value)} {off size : Nat} (hp : place i = some (off, size)) (h1 : v.cells.size = size) (h2 : off + size ≤ cells.size) :
    Instr.fill place cells ((i, v) :: rest) = Instr.fill place (v.cells.zipIdx.foldl (fun cs (c, j) => cs.setIfInBounds (off + j) c) cells) rest := by
  rw [Instr.fill, hp]
  simp only [h1]
  rw [if_neg (by simp; omega)]
theorem fill_nil {place : Nat → Option (Nat × Nat)} {cells : Array Value} : Instr.fill place cells [] = some cells := by rw [Instr.fill]
theorem lay_array (off : Nat) (vs : List Value) (cs : Array Value) (h : off + vs.length ≤ cs.size) :
    (vs.toArray.zipIdx.foldl (fun cs (x : Value × Nat) => cs.setIfInBounds (off + x.2) x.1) cs).toList = cs.toList.take off ++ vs ++ cs.toList.drop (off + vs.length) := by
  have := lay_cells off vs 0 cs (by omega)
  rw [← Array.foldl_toList, Array.toList_zipIdx, List.toList_toArray]
  simpa using this
theorem fold_build (n : Int) (b : List Int) (hb : b.length = 64) : List.foldl (fun cs x => cs.setIfInBounds (1 + x.snd) x.fst) (Try.zeroCells93.setIfInBounds 0 (Value.int IntKind.i64 n)) (nums IntKind.u8 b).zipIdx = (encP (n, b)).toArray := by
  have hn : (nums .u8 b).length = 64 := by rw [nums_length, hb]
  have hz : (Try.zeroCells93.setIfInBounds 0 (Value.int IntKind.i64 n)).toList = Value.int .i64 n :: List.replicate 64 (Value.int .u8 0) := by rfl
  have h := lay_cells 1 (nums .u8 b) 0 (Try.zeroCells93.setIfInBounds 0 (Value.int IntKind.i64 n)) (by rw [← Array.length_toList, hz]; simp [hn])
  apply Array.toList_inj.1
  rw [h, hz]
  simp [encP, hn]
theorem fold_slice (c : List Value) (hc : c.length = 65) (z : Array Value) (hz : z.size = 65) : List.foldl (fun cs x => cs.setIfInBounds x.snd x.fst) z c.zipIdx = c.toArray := by
  have h := lay_cells 0 c 0 z (by omega)
  apply Array.toList_inj.1
  simp only [Nat.zero_add] at h
  rw [h]
  simp [hc, hz]

theorem one_encP (p : Int × List Int) : ∀ u ∈ encP p, u.oneCell' = true := by
  intro u hu
  rcases List.mem_cons.1 hu with rfl | hu
  · rfl
  · obtain ⟨x, _, rfl⟩ := List.mem_map.1 hu
    rfl
/-- The row of pending writes is not the disk's own block. -/
theorem IsDisk.row_ne {w : World} {B : Nat → Prop} {g : Nat} {D : DS} (h : IsDisk w B g D) {cv : Value} (hc : w.cell? ⟨g, 2, none⟩ = some cv) (ho : w.ownsRow 0 93 65 cv D.c.length (encC D.c)) : cv.ownBlock ≠ some g := by
  obtain ⟨m, cv', h1, _⟩ := h
  intro e
  rcases ho.2 with ⟨rfl, _⟩ | ⟨g', cap, cur, rfl, _, hb, _⟩
  · cases e
  · injection e with e
    subst e
    rw [h1] at hb
    injection hb with hb
    injection hb with _ hb
    cases hb

theorem World.rangeAt_setCell_far {w : World} {b o : Nat} {cs : List Value} (h : w.rangeAt b o cs) (a : Addr) (v : Value) (hne : b ≠ a.block) : (w.setCell a v).rangeAt b o cs := fun j u hj => by
  rw [World.cell?_of_block (w := w) (a := ⟨b, o + j, none⟩) (Below.heap_setCell w a v b hne)]
  exact h j u hj

/-- What Write comes to. -/
def writeD (D : DS) (n : Int) (b : List Int) : Int × DS :=
  if lookD D n = 0 then (if b.length = 64 then (if (stepD D).1 = true then (0, { (stepD D).2 with c := (stepD D).2.c ++ [(n, b)] }) else (230, (stepD D).2)) else (6, D)) else (lookD D n, D)

/-- A row of bytes that is read, as a range of cells. -/
theorem bytes_range {w : World} {A : Option Addr} {l : List Int} (h : Kd.C (Kd.int .u8) w A l.length l) (h0 : 0 < l.length) : ∃ bk o, A = some ⟨bk, o, none⟩ ∧ w.rangeAt bk o (nums .u8 l) := by
  obtain ⟨ad, e, hx⟩ := Kd.at_int h 0 (by omega) (by omega)
  have hs : ad.spot = none := by
    rw [show ad.add ((0 : Int).toNat) = ad from by simp [Addr.add]] at hx
    unfold World.cell? at hx
    split at hx
    · split at hx
      · cases hx
      · rename_i hsp
        simpa using hsp
    · cases hx
  obtain ⟨bk, o, sp⟩ := ad
  dsimp only at hs
  subst hs
  refine ⟨bk, o, e, fun j v hj => ?_⟩
  have hj1 : j < l.length := by simpa [nums] using (List.getElem?_eq_some_iff.1 hj).1
  obtain ⟨ad', e', hy⟩ := Kd.at_int h (j : Int) (by omega) (by omega)
  rw [e] at e'
  injection e' with e'
  subst e'
  rw [Int.toNat_natCast, Addr.add_mid] at hy
  rw [hy]
  simp only [nums, List.getElem?_map, List.getElem?_eq_getElem hj1, Option.map_some] at hj
  rw [← hj]
  simp [rd, List.getD_eq_getElem?_getD, List.getElem?_eq_getElem hj1]

theorem write_end {w w2 w3 : World} {B : Nat → Prop} {g gg cap nq : Nat} {D2 : DS} {cv : Value} {ec : List Value} {k : Int} {b : List Int} (hD : IsDisk w2 B g D2) (hF : Fr B (w.drewN nq) w2) (ob : ∀ k, cv.ownBlock = some k → B k)
    (hc2 : w2.cell? ⟨g, 2, none⟩ = some cv) (ag : cv.ownBlock ≠ some g)
    (hown : w3.ownsRow 0 93 65 (.slice (some ⟨gg, 0, none⟩) (D2.c.length + 1) cap) (D2.c.length + 1) (encC D2.c ++ ec)) (hg : ((w2.alloc (.cells ec.toArray 93)).drew).grownBy w3 cv.ownBlock) (hat : cv.ownBlock = some gg ∨ gg = w2.heap.size + 1) (hlt : gg < w3.heap.size)
    (he : encC (D2.c ++ [(k, b)]) = encC D2.c ++ ec) (hb : b.length = 64) (hk : (Lit.int .i64 k).wf = true) :
    (∃ B', IsDisk (w3.setCell ⟨g, 2, none⟩ (.slice (some ⟨gg, 0, none⟩) (D2.c.length + 1) cap)) B' g { D2 with c := D2.c ++ [(k, b)] } ∧ ∀ k, B' k → B k ∨ w.heap.size ≤ k) ∧
      Fr B w (w3.setCell ⟨g, 2, none⟩ (.slice (some ⟨gg, 0, none⟩) (D2.c.length + 1) cap)) := by
  have hsz : w.heap.size ≤ w2.heap.size := hF.size
  obtain ⟨m, cv', h1, h2, h3, h4, h5, h6, h7, h8, h9⟩ := hD
  have hcv : cv' = cv := by
    rw [cell_of_row w2 g 2 _ 88 (0, 0) h1] at hc2
    simpa using hc2
  subst hcv
  have hgl : g < w2.heap.size := h9 g h2
  have hml : m < w2.heap.size := h9 m h3
  have old : ∀ i, i < w2.heap.size → cv'.ownBlock ≠ some i → w3.heap[i]? = w2.heap[i]? := fun i hi hn => by
    rw [hg.block i (by simp; omega) (fun e => hn e.symm)]
    exact Below.heap_alloc _ _ _ hi
  have e1 := (old g hgl ag).trans h1
  have hmn : cv'.ownBlock ≠ some m := by
    intro e
    obtain ⟨_, ⟨es, clock, hb', _⟩, _⟩ := h5
    rcases h6.2 with ⟨rfl, _⟩ | ⟨g', cap', cur, rfl, _, hb2, _⟩
    · cases e
    · injection e with e
      subst e
      rw [hb'] at hb2
      cases hb2
  have hmg : m ≠ g := by
    rintro rfl
    obtain ⟨_, ⟨es, clock, hb', _⟩, _⟩ := h5
    rw [h1] at hb'
    cases hb'
  have hgg : gg ≠ g := by
    rintro rfl
    rcases hown.2 with ⟨e, _⟩ | ⟨g', cap', cur, e, _, hb2, _⟩
    · cases e
    · injection e with e
      injection e with e
      injection e with e
      subst e
      rw [e1] at hb2
      injection hb2 with hb2
      injection hb2 with _ hb2
      cases hb2
  refine ⟨⟨fun i => B i ∨ i = gg, ⟨m, .slice (some ⟨gg, 0, none⟩) (D2.c.length + 1) cap, by rw [heap_setCell_same w3 g 2 _ 88 _ e1]; rfl, .inl h2, .inl h3, fun i e => .inr (by injection e with e; exact e.symm),
      (h5.kept (old m hml hmn)).kept (heap_setCell_other w3 _ m _ hmg), ?_, ?_, h8, fun i hi => ?_⟩, fun i hi => ?_⟩, ?_⟩
  · show (w3.setCell _ _).ownsRow 0 93 65 _ (D2.c ++ [(k, b)]).length (encC (D2.c ++ [(k, b)]))
    rw [List.length_append, he]
    exact ownsRow_kept hown (fun i e => heap_setCell_other w3 _ i _ (by injection e with e; rintro rfl; exact hgg e))
  · intro p hp
    rcases List.mem_append.1 hp with hp | hp
    · exact h7 p hp
    · rw [List.mem_singleton.1 hp]
      exact ⟨hb, hk⟩
  · have : w2.heap.size ≤ w3.heap.size := Nat.le_trans (by simp) hg.size
    rcases hi with hi | rfl
    · have := h9 i hi
      simp [World.setCell]
      omega
    · simpa [World.setCell] using hlt
  · rcases hi with hi | rfl
    · exact .inl hi
    · rcases hat with e | e
      · exact .inl (ob _ e)
      · exact .inr (by omega)
  · have f1 : Fr B w ((w2.alloc (.cells ec.toArray 93)).drew) := (hF.drewN'.alloc _).drew
    exact (f1.grown hg (fun i e => .inl (ob i e))).setCell (.inl h2) _

set_option maxHeartbeats 4000000 in
set_option maxRecDepth 100000 in
theorem write_calls (g : Nat) (B : Nat → Prop) (D : DS) (n : Int) (A : Option Addr) (cp : Nat) (b : List Int) (w : World) (h : IsDisk w B g D) (hs : -1 ≤ D.steps ∧ D.steps < 9223372036854775807) (hl : D.left ≤ 9223372036854775807)
    (hwf : (Lit.int .i64 n).wf = true) (hc : D.c.length ≤ 1000000) (hb : Kd.C (Kd.int .u8) w A b.length b) (hcap : b.length ≤ cp) (hdis : ∀ ad, A = some ad → 0 < b.length → ¬ B ad.block) :
    Calls Try.prog 14 #[.pointer (some ⟨g, 0, none⟩), .int .i64 n, .slice A b.length cp] w fun e w' => e = .returned (.int .i64 (writeD D n b).1) ∧ (∃ B', IsDisk w' B' g (writeD D n b).2 ∧ ∀ k, B' k → B k ∨ w.heap.size ≤ k) ∧ Fr B w w' := by
  have H := Aside0.mk h
  have HB := Aside0.mk hb
  have HD := Aside0.mk hdis
  have HWF := Aside0.mk hwf
  clear h hb hdis hwf
  by_cases h1 : lookD D n = 0
  rotate_left
  · have R : Aside0 (writeD D n b = (lookD D n, D)) := ⟨by unfold writeD; rw [if_neg h1]⟩
    have LK := Aside0.mk (look_calls g B D n w H.out)
    obtain ⟨e0, he0⟩ : ∃ e0, lookD D n = e0 := ⟨_, rfl⟩
    rw [he0] at h1 R LK
    have h1b : (e0 != 0) = true := by simpa using h1
    clear he0
    go_enter Try.func14, Try.ntmps14
    go_wp2_with fail
    refine LK.out.mono ?_
    rintro e w' ⟨rfl, ⟨nq, rfl⟩⟩
    go_wp2
    go_ret
    rw [R.out]
    exact ⟨rfl, ⟨B, H.out.drewN _, fun k hk => .inl hk⟩, (Fr.refl _ _).drewN _⟩
  · have LK := Aside0.mk (look_calls g B D n w H.out)
    rw [h1] at LK
    by_cases h2 : b.length = 64
    rotate_left
    · have R : Aside0 (writeD D n b = (6, D)) := ⟨by unfold writeD; rw [if_pos h1, if_neg h2]⟩
      have h2b : ((b.length : Int) != 64) = true := by simp; omega
      clear h1
      go_enter Try.func14, Try.ntmps14
      go_wp2_with fail
      refine LK.out.mono ?_
      rintro e w' ⟨rfl, ⟨nq, rfl⟩⟩
      go_wp2
      go_ret
      rw [R.out]
      exact ⟨rfl, ⟨B, H.out.drewN _, fun k hk => .inl hk⟩, (Fr.refl _ _).drewN _⟩
    · have ST := fun (w' : World) (h' : IsDisk w' B g D) => step_calls g B D w' h' hs hl
      have ST := Aside0.mk ST
      obtain ⟨ok, hok⟩ : ∃ ok, (stepD D).1 = ok := ⟨_, rfl⟩
      have R : Aside0 (writeD D n b = if ok = true then (0, { (stepD D).2 with c := (stepD D).2.c ++ [(n, b)] }) else (230, (stepD D).2)) := ⟨by unfold writeD; rw [if_pos h1, if_pos h2, hok]⟩
      have hDc : Aside0 ((stepD D).2.c = D.c) := ⟨by unfold stepD; split <;> rfl⟩
      rw [hok] at ST
      rw [h2] at HB
      generalize (stepD D).2 = D2 at *
      clear h1 hok
      rw [h2]
      cases ok with
      | false =>
        clear hs hl hc hcap
        have h2' := Aside0.mk h2
        clear h2
        go_enter Try.func14, Try.ntmps14
        go_wp2_with fail
        refine LK.out.mono ?_
        rintro e w' ⟨rfl, ⟨nq, rfl⟩⟩
        go_wp2_with fail
        refine (ST.out _ (H.out.drewN _)).mono ?_
        rintro e w2 ⟨rfl, hd2, hf2⟩
        have HD2 := Aside0.mk hd2
        have HF2 := Aside0.mk hf2
        clear hd2 hf2
        go_wp2
        go_ret
        rw [R.out]
        exact ⟨rfl, ⟨B, HD2.out, fun k hk => .inl hk⟩, HF2.out.drewN'⟩
      | true =>
        have hlen := Aside0.mk h2
        clear hs hl hcap
        go_enter Try.func14, Try.ntmps14
        go_wp2_with fail
        refine LK.out.mono ?_
        rintro e w' ⟨rfl, ⟨nq, rfl⟩⟩
        go_wp2_with fail
        refine (ST.out _ (H.out.drewN _)).mono ?_
        rintro e w2 ⟨rfl, hd2, hf2⟩
        have HD2 := Aside0.mk hd2
        have HF2 := Aside0.mk hf2
        clear hd2 hf2
        obtain ⟨m, cv, c0, c1, c2, c3, c4, c5, cf, hlt, im, own, ob, bm, bg⟩ := HD2.out.cells
        obtain ⟨bk, o, rfl, hr⟩ := bytes_range (h2.symm ▸ HB.out) (by omega)
        have hr2 : w2.rangeAt bk o (nums .u8 b) := fun j v hj => by
          have q := hr j v hj
          exact (World.cell?_of_block (w := w) (HF2.out.keep bk (World.block_lt_of_cell? w _ q) (HD.out _ rfl (by omega)))).trans q
        have fz := cf 2
        have OWN := Aside0.mk own
        have OB := Aside0.mk ob
        have hb0 : (nums .u8 b).length = 64 := by rw [nums_length, h2]
        have hb1 := fold_build n b h2
        have u91 := Try.underlying91
        have i91 : (Try.prog.info? 91).map (·.size) = some (nums .u8 b).length := by rw [nums_length, h2]; exact info91
        have ag := HD2.out.row_ne c2 own
        have bkg : bk ≠ g := fun e => HD.out _ rfl (by omega) (e ▸ bg)
        have ab : cv.ownBlock ≠ some bk := fun e => HD.out _ rfl (by omega) (ob _ e)
        have bkl : bk < w2.heap.size := World.block_lt_of_cell? w2 _ (hr2 0 (.int .u8 (rd b 0)) (by simp [nums, rd, List.getD_eq_getElem?_getD, h2]))
        obtain ⟨i0, hi0, hz0, hz1, hz2⟩ := info_parts info93
        have harr : ∀ w, (Instr.arrayAt 91 (.slice (some ⟨bk, o, none⟩) 64 cp)).run Try.prog w = .ok (.pointer (some ⟨bk, o, none⟩)) w := fun w => by kernel_rfl
        have hcl : D2.c.length ≤ 1000000 := by rw [hDc.out]; exact hc
        have HOK := one_encP (n, b)
        have HLE := encP_length (p := (n, b)) h2
        have HEC := Aside0.mk (show encC (D2.c ++ [(n, b)]) = encC D2.c ++ encP (n, b) by rw [encC_append]; simp [encC])
        generalize encP (n, b) = ec at *
        have hb2 := fold_slice ec HLE
        replace HOK := Aside0.mk HOK
        clear c0 c1 c3 c4 c5 cf im bm bg own ob hr h2 hc
        go_wp2_with fail
        have c2d : w2.drew.cell? ⟨g, 2, none⟩ = some cv := c2
        have c2a : (w2.alloc (.cells ec.toArray 93)).drew.cell? ⟨g, 2, none⟩ = some cv := (World.cell?_alloc_lt _ _ _ hlt).trans c2
        have fza : (w2.alloc (.cells ec.toArray 93)).drew.frozen? ⟨g, 2, none⟩ = false := (World.frozen?_alloc_past _ _ _ hlt).trans fz
        have C2A := Aside0.mk c2a
        have C2 := Aside0.mk c2
        have FZA := Aside0.mk fza
        refine wp_region_noPanic ?_
        refine wp_region_held_drew (S := fun w' => w'.rangeAt bk o (nums .u8 b)) (by kernel_rfl) hr2 (fun hHeld => ?_)
        refine wpAnyH_take (i := 0) (oi := _) (v := (.pointer (some ⟨g, 0, none⟩))) rfl (by kernel_rfl) (by kernel_rfl) (by kernel_rfl) (fun _ _ _ h => h) (Or.inl ⟨by rfl, fun w5 hw5 => by go_simp⟩) hHeld ?_
        simp only [Act.put, List.setIfInBounds_toArray, List.set_cons_zero, List.set_cons_succ]
        refine wpAnyH_take (i := 1) (oi := _) (v := (.pointer (some ⟨g, 0, none⟩))) rfl (by kernel_rfl) (by kernel_rfl) (by kernel_rfl) (fun _ _ _ h => h) (Or.inl ⟨by rfl, fun w5 hw5 => by go_simp⟩) hHeld ?_
        simp only [Act.put, List.setIfInBounds_toArray, List.set_cons_zero, List.set_cons_succ]
        refine wpAnyH_take (i := 2) (oi := _) (v := (.pointer (some ⟨g, 0, none⟩))) rfl (by kernel_rfl) (by kernel_rfl) (by kernel_rfl) (fun _ _ _ h => h) (Or.inl ⟨by rfl, fun w5 hw5 => by go_simp⟩) hHeld ?_
        simp only [Act.put, List.setIfInBounds_toArray, List.set_cons_zero, List.set_cons_succ]
        refine wpAnyH_take (i := 3) (oi := _) (v := (.pointer (some ⟨g, 2, none⟩))) rfl (by kernel_rfl) (by kernel_rfl) (by kernel_rfl) (fun _ _ _ h => h) (Or.inl ⟨by rfl, fun w5 hw5 => by go_simp⟩) hHeld ?_
        simp only [Act.put, List.setIfInBounds_toArray, List.set_cons_zero, List.set_cons_succ]
        refine wpAnyH_take (i := 5) (oi := _) (v := (.int .i64 n)) rfl (by kernel_rfl) (by kernel_rfl) (by kernel_rfl) (fun _ _ _ h => h) (Or.inl ⟨by rfl, fun w5 hw5 => by go_simp⟩) hHeld ?_
        simp only [Act.put, List.setIfInBounds_toArray, List.set_cons_zero, List.set_cons_succ]
        refine wpAnyH_take (i := 6) (oi := _) (v := (.slice (some ⟨bk, o, none⟩) 64 cp)) rfl (by kernel_rfl) (by kernel_rfl) (by kernel_rfl) (fun _ _ _ h => h) (Or.inl ⟨by rfl, fun w5 hw5 => by go_simp⟩) hHeld ?_
        simp only [Act.put, List.setIfInBounds_toArray, List.set_cons_zero, List.set_cons_succ]
        refine wpAnyH_take (i := 7) (oi := _) (v := (.pointer (some ⟨bk, o, none⟩))) rfl (by kernel_rfl) (by kernel_rfl) (by kernel_rfl) (fun _ _ _ h => h) (Or.inl ⟨by rfl, fun w5 hw5 => by go_simp⟩) hHeld ?_
        simp only [Act.put, List.setIfInBounds_toArray, List.set_cons_zero, List.set_cons_succ]
        refine wpAnyH_take (i := 8) (oi := _) (v := .agg (nums .u8 b).toArray) rfl (by kernel_rfl) (by kernel_rfl) (by kernel_rfl) (fun _ _ _ h => h) (yieldsIf_load_mid (by rfl) _ _ rfl bk o rfl (nums .u8 b) _ (fun _ h => h) u91 rfl i91) hHeld ?_
        simp only [Act.put, List.setIfInBounds_toArray, List.set_cons_zero, List.set_cons_succ]
        refine wpAnyH_take (i := 9) (oi := _) (v := (.agg ec.toArray)) rfl (by kernel_rfl) (by kernel_rfl) (by kernel_rfl) (fun _ _ _ h => h) (Or.inl ⟨by rfl, fun w5 hw5 => by go_simp⟩) hHeld ?_
        simp only [Act.put, List.setIfInBounds_toArray, List.set_cons_zero, List.set_cons_succ]
        refine wpAnyH_ready (rs := [4, 10]) (by kernel_rfl) (by simp) ?_
        refine AllReadyH.cons rfl (fun K hK => ?_) (AllReadyH.cons rfl (fun K hK => ?_) AllReadyH.nil)
        · go_simp
          refine hK.out _ _ hHeld (fun hHeld => ?_)
          clear hK K
          try simp only [Act.put, List.setIfInBounds_toArray, List.set_cons_zero, List.set_cons_succ]
          refine wpAnyH_ready (rs := [10]) (by kernel_rfl) (by simp) ?_
          refine AllReadyH.cons rfl (fun K hK => ?_) AllReadyH.nil
          go_simp
          refine hK.out _ _ ((World.rangeAt_drew _ _ _ _).2 (World.rangeAt_alloc hHeld _)) (fun hHeld => ?_)
          clear hK K
          try simp only [Act.put, List.setIfInBounds_toArray, List.set_cons_zero, List.set_cons_succ]
          refine wpAnyH_ready (rs := [11]) (by kernel_rfl) (by simp) ?_
          refine AllReadyH.cons rfl (fun K hK => ?_) AllReadyH.nil
          refine step_append_lies _ (by rfl) _ _ _ (by rfl) 0 93 i0 _ 65 72 Try.underlying86 hi0 hz0 hz1 hz2 rfl (by omega) cv D2.c.length (encC D2.c) (by rfl) ((OWN.out.alloc _).drew)
              ⟨w2.heap.size, 0, none⟩ 1 1 ec (by rfl) (by rw [HLE]) (World.news_of_block (cs := ec.toArray) (t := 93) (fr := (0, 0)) (heap_alloc_new _ _)) HOK.out
              (by omega) (by unfold maxLen; omega) (by omega) (by omega) (w2.heap.size + 1) (by simp) ?_
          intro gg cap w3 hown1 hgrow hat hlt2
          have c23 : w3.cell? ⟨g, 2, none⟩ = some cv := (hgrow.cell_far _ (by simp; omega) (Ne.symm ag)).trans C2A.out
          have fz3 : w3.frozen? ⟨g, 2, none⟩ = false := (hgrow.frozen_far _ (by simp; omega) (Ne.symm ag)).trans FZA.out
          have hr3 : w3.rangeAt bk o (nums .u8 b) := fun j v hj => (hgrow.cell_far _ (by simp; omega) (Ne.symm ab)).trans (hHeld j v hj)
          have HOWN := Aside0.mk hown1
          have HGR := Aside0.mk hgrow
          have HAT := Aside0.mk hat
          have HLT := Aside0.mk hlt2
          clear hown1 hgrow hat hlt2
          refine hK.out _ _ hr3 (fun hHeld => ?_)
          clear hK K
          try simp only [Act.put, List.setIfInBounds_toArray, List.set_cons_zero, List.set_cons_succ]
          refine wpAnyH_take (i := 12) (oi := _) (v := (.pointer (some ⟨g, 0, none⟩))) rfl (by kernel_rfl) (by kernel_rfl) (by kernel_rfl) (fun _ _ _ h => h) (Or.inl ⟨by rfl, fun w5 hw5 => by go_simp⟩) hHeld ?_
          try simp only [Act.put, List.setIfInBounds_toArray, List.set_cons_zero, List.set_cons_succ]
          refine wpAnyH_take (i := 13) (oi := _) (v := (.pointer (some ⟨g, 2, none⟩))) rfl (by kernel_rfl) (by kernel_rfl) (by kernel_rfl) (fun _ _ _ h => h) (Or.inl ⟨by rfl, fun w5 hw5 => by go_simp⟩) hHeld ?_
          try simp only [Act.put, List.setIfInBounds_toArray, List.set_cons_zero, List.set_cons_succ]
          refine wpAnyH_ready (rs := [14]) (by kernel_rfl) (by simp) ?_
          refine AllReadyH.cons rfl (fun K hK => ?_) AllReadyH.nil
          go_simp
          refine hK.out _ _ (World.rangeAt_setCell_far hHeld _ _ bkg) (fun hHeld => ?_)
          clear hK K
          try simp only [Act.put, List.setIfInBounds_toArray, List.set_cons_zero, List.set_cons_succ]
          refine wpAnyH_done (by kernel_rfl) ?_ _
          refine NoPanic.normal ?_
          go_wp2
          go_ret
          rw [R.out, if_pos trivial]
          exact ⟨rfl, write_end HD2.out HF2.out OB.out C2.out ag HOWN.out HGR.out HAT.out HLT.out HEC.out hlen.out HWF.out⟩
        · go_simp
          refine hK.out _ _ ((World.rangeAt_drew _ _ _ _).2 (World.rangeAt_alloc hHeld _)) (fun hHeld => ?_)
          clear hK K
          try simp only [Act.put, List.setIfInBounds_toArray, List.set_cons_zero, List.set_cons_succ]
          refine wpAnyH_ready (rs := [4]) (by kernel_rfl) (by simp) ?_
          refine AllReadyH.cons rfl (fun K hK => ?_) AllReadyH.nil
          go_simp
          refine hK.out _ _ hHeld (fun hHeld => ?_)
          clear hK K
          try simp only [Act.put, List.setIfInBounds_toArray, List.set_cons_zero, List.set_cons_succ]
          refine wpAnyH_ready (rs := [11]) (by kernel_rfl) (by simp) ?_
          refine AllReadyH.cons rfl (fun K hK => ?_) AllReadyH.nil
          refine step_append_lies _ (by rfl) _ _ _ (by rfl) 0 93 i0 _ 65 72 Try.underlying86 hi0 hz0 hz1 hz2 rfl (by omega) cv D2.c.length (encC D2.c) (by rfl) ((OWN.out.alloc _).drew)
              ⟨w2.heap.size, 0, none⟩ 1 1 ec (by rfl) (by rw [HLE]) (World.news_of_block (cs := ec.toArray) (t := 93) (fr := (0, 0)) (heap_alloc_new _ _)) HOK.out
              (by omega) (by unfold maxLen; omega) (by omega) (by omega) (w2.heap.size + 1) (by simp) ?_
          intro gg cap w3 hown1 hgrow hat hlt2
          have c23 : w3.cell? ⟨g, 2, none⟩ = some cv := (hgrow.cell_far _ (by simp; omega) (Ne.symm ag)).trans C2A.out
          have fz3 : w3.frozen? ⟨g, 2, none⟩ = false := (hgrow.frozen_far _ (by simp; omega) (Ne.symm ag)).trans FZA.out
          have hr3 : w3.rangeAt bk o (nums .u8 b) := fun j v hj => (hgrow.cell_far _ (by simp; omega) (Ne.symm ab)).trans (hHeld j v hj)
          have HOWN := Aside0.mk hown1
          have HGR := Aside0.mk hgrow
          have HAT := Aside0.mk hat
          have HLT := Aside0.mk hlt2
          clear hown1 hgrow hat hlt2
          refine hK.out _ _ hr3 (fun hHeld => ?_)
          clear hK K
          try simp only [Act.put, List.setIfInBounds_toArray, List.set_cons_zero, List.set_cons_succ]
          refine wpAnyH_take (i := 12) (oi := _) (v := (.pointer (some ⟨g, 0, none⟩))) rfl (by kernel_rfl) (by kernel_rfl) (by kernel_rfl) (fun _ _ _ h => h) (Or.inl ⟨by rfl, fun w5 hw5 => by go_simp⟩) hHeld ?_
          try simp only [Act.put, List.setIfInBounds_toArray, List.set_cons_zero, List.set_cons_succ]
          refine wpAnyH_take (i := 13) (oi := _) (v := (.pointer (some ⟨g, 2, none⟩))) rfl (by kernel_rfl) (by kernel_rfl) (by kernel_rfl) (fun _ _ _ h => h) (Or.inl ⟨by rfl, fun w5 hw5 => by go_simp⟩) hHeld ?_
          try simp only [Act.put, List.setIfInBounds_toArray, List.set_cons_zero, List.set_cons_succ]
          refine wpAnyH_ready (rs := [14]) (by kernel_rfl) (by simp) ?_
          refine AllReadyH.cons rfl (fun K hK => ?_) AllReadyH.nil
          go_simp
          refine hK.out _ _ (World.rangeAt_setCell_far hHeld _ _ bkg) (fun hHeld => ?_)
          clear hK K
          try simp only [Act.put, List.setIfInBounds_toArray, List.set_cons_zero, List.set_cons_succ]
          refine wpAnyH_done (by kernel_rfl) ?_ _
          refine NoPanic.normal ?_
          go_wp2
          go_ret
          rw [R.out, if_pos trivial]
          exact ⟨rfl, write_end HD2.out HF2.out OB.out C2.out ag HOWN.out HGR.out HAT.out HLT.out HEC.out hlen.out HWF.out⟩
end Go.Proofs.Ytppgbfkhiofjiaa.X
