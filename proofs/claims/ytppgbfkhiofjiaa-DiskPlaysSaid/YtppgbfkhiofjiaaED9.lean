/-
  The contracts of maps.Clone, slices.Clone and Clone.
-/
import Derived.Test.YtppgbfkhiofjiaaED8
import Derived.Shelf.SlMaps.Clone
import Derived.Lib.SliceRun
import Derived.Deep.RegionWith
namespace Go.Proofs.Ytppgbfkhiofjiaa.X
open Go.RowKit Go.Proofs.YtppgbfkhiofjiaaW.PrintWords Go.Proofs.YtppgbfkhiofjiaaW.PrintLast Go.Proofs.YtppgbfkhiofjiaaW.PrintMore
set_option linter.unusedVariables false
set_option linter.unusedSimpArgs false

set_option maxHeartbeats 2000000 in
set_option maxRecDepth 100000 in
theorem mclone_calls (b : Nat) (es : Array MapEntry) (clock : Nat) (w : World) (hb : w.heap[b]? = some (.map es clock)) :
    Calls Try.prog 48 #[.map (some b)] w fun e w' => e = .returned (.map (some w.heap.size)) ∧ w' = w.alloc (.map es clock) := by
  have hq := fun w => run_eql_map_nil_sl (P := Try.prog) w 85 _ _ (some b) Try.underlying85
  go_enter Try.func48, Try.ntmps48
  go_wp2
  rw [run_callFunc_extern Try.func72 (by kernel_rfl) (by kernel_rfl) (by kernel_rfl) (e := Extern.MapsClone.clone) (by kernel_rfl), run_maps_clone_sl w 85 hb]
  simp only [Result.andThen]
  rw [Oper.upon_value]
  go_wp2
  rw [run_typeAssert_map_sl _ 85 20 _ _ _ Try.underlying85]
  simp only [Result.andThen]
  rw [Oper.upon_value]
  go_wp2
  go_ret
  exact ⟨rfl, rfl⟩

/-- An append onto an own row, whatever is appended. -/
theorem wpList_append_own {P : Program} {w : World} {ops : Array Oper} {rest : List Oper} {o : Oper} {a : Act} {Q : Exit → Act → World → Prop} (hgd : o.guard = none) (s x : Operand) (t : TypeId)
    (ho : o.op = .call { callee := .builtin .append, args := #[s, x], argTypes := #[t, t] })
    (base : Nat) (e : TypeId) (z : Value) (size bytes : Nat) (ht : P.underlying t = some (.slice e)) (hinfo : (P.info? e).map (fun i => (i.zero, i.size, i.bytes)) = some (some z, size, bytes)) (hzs : z.cells.size = size) (hsz : 0 < size)
    (v : Value) (n : Nat) (xs : List Value) (hs : a.eval s = v) (hown : w.ownsRow base e size v n xs)
    (ad : Addr) (m c : Nat) (news : List Value) (hx : a.eval x = .slice (some ad) m c) (hl : news.length = m * size) (hnews : ∀ j u, news[j]? = some u → w.cell? (ad.add j) = some u) (h1 : ∀ u ∈ news, u.oneCell' = true)
    (h63 : n + m ≤ maxLen) (hbytes : (n + m) * bytes ≤ 140737488355328) (hbase : base ≤ w.heap.size)
    (h : ∀ v' w', w'.ownsRow base e size v' (n + m) (xs ++ news) → w.grownBy w' v.ownBlock → (v'.ownBlock = v.ownBlock ∨ v'.ownBlock = some w.heap.size) → wpList P ops Q rest (a.put o.dst v') w') : wpList P ops Q (o :: rest) a w := by
  obtain ⟨i0, hi, hzz⟩ := Option.map_eq_some_iff.1 hinfo
  simp only [Prod.mk.injEq] at hzz
  obtain ⟨hz0, hz1, hz2⟩ := hzz
  refine wpList_plain hgd fun K hK => ?_
  obtain ⟨v', w', hr, h2, h3, _, h4⟩ := run_append_own_at (P := P) w base t o.type e i0 z size bytes ht hi hz0 hz1 hz2 hzs hsz v n xs hown ad m c news hl hnews h1 h63 hbytes hbase
  unfold Oper.wp execOp
  simp only [ho, resolve, invoke, builtin, Sem.run_bind, Sem.run_pure, Result.andThen_ok, List.map_toArray, List.map_cons, List.map_nil, hs, hx, hr]
  exact hK _ _ (h v' w' h2 h3 h4)
theorem one_encC : ∀ (c : List (Int × List Int)), ∀ u ∈ encC c, u.oneCell' = true
  | [], u, h => by simp [encC] at h
  | p :: c, u, h => by
    rw [encC] at h
    rcases List.mem_append.1 h with h | h
    · exact one_encP p u h
    · exact one_encC c u h

set_option maxHeartbeats 2000000 in
set_option maxRecDepth 100000 in
theorem sclone_calls (cv : Value) (n : Nat) (xs : List Value) (w : World) (ho : w.ownsRow 0 93 65 cv n xs) (h1 : ∀ u ∈ xs, u.oneCell' = true) (hn : n ≤ 1000000) :
    Calls Try.prog 49 #[cv] w fun e w' => ∃ v, e = .returned v ∧ w'.ownsRow 0 93 65 v n xs ∧ (∀ k, v.ownBlock = some k → w.heap.size ≤ k ∧ k < w'.heap.size) ∧ Below w.heap.size w w' := by
  have hxl := ho.1
  have HO := Aside0.mk ho
  rcases ho.2 with ⟨rfl, rfl⟩ | ⟨gb, cap, cur, rfl, hb, hh, hnc, hcm, hcs, ht⟩
  · have hq : ∀ w, (binOp .eql 86 (.slice none 0 0) (.slice none 0 0)).run Try.prog w = .ok (.bool true) w := fun w => Lib.run_eql_slice_nil w 86 93 none 0 0 0 0 Try.underlying86
    clear ho
    go_enter Try.func49, Try.ntmps49
    go_wp2
    go_ret
    exact ⟨_, rfl, HO.out, (fun k e => by cases e), Below.refl _ _⟩
  · have hq : ∀ w, (binOp .eql 86 (.slice (some ⟨gb, 0, none⟩) n cap) (.slice none 0 0)).run Try.prog w = .ok (.bool false) w := fun w => Lib.run_eql_slice_nil w 86 93 (some ⟨gb, 0, none⟩) n cap 0 0 Try.underlying86
    have hcells := HO.out.cells (g := gb) rfl
    have HC : Aside0 (∀ j u, xs[j]? = some u → (w.alloc (.cells #[] 93)).cell? ((⟨gb, 0, none⟩ : Addr).add j) = some u) := ⟨fun j u hu => by
      have h := hcells j u hu
      rw [← h]
      exact World.cell?_of_block (Below.heap_alloc _ _ _ (by
        rcases Nat.lt_or_ge gb w.heap.size with h' | h'
        · rw [Addr.add_mid]; exact h'
        · rw [Array.getElem?_eq_none h'] at hh; cases hh))⟩
    have HK : Aside0 ((w.alloc (.cells #[] 93)).ownsRow 0 93 65 (.slice (some ⟨w.heap.size, 0, none⟩) 0 0) 0 []) := ⟨⟨rfl, .inr ⟨w.heap.size, 0, #[], rfl, Nat.zero_le _, heap_alloc_new _ _, Nat.le_refl _, by decide, rfl, rfl⟩⟩⟩
    have H1 := Aside0.mk h1
    clear ho hh hcs ht hcells h1
    go_enter Try.func49, Try.ntmps49
    go_wp2_with ((with_reducible refine gate_builtin (b := .append) (xs := #[.tmp 5, .tmp 6]) rfl ?_); at_builtin; refine wpList_append_own rfl (.tmp 5) (.tmp 6) 86 rfl 0 93 _ 65 72 Try.underlying86 info93 rfl (by omega) (.slice (some ⟨w.heap.size, 0, none⟩) 0 0) 0 [] rfl HK.out ⟨gb, 0, none⟩ n cap xs rfl hxl HC.out H1.out (by unfold maxLen; omega) (by omega) (Nat.zero_le _) ?_; intro v' w' h2 h3 h4; have H2 := Aside0.mk h2; have H3 := Aside0.mk h3; have H4 := Aside0.mk h4; clear h2 h3 h4)
    go_ret
    have hB : Below w.heap.size w w' := by
      have f := ((Fr.refl (fun _ => False) w).alloc (.cells #[] 93)).trans (Fr.of_grownBy H3.out) (fun b h => .inr (by injection h with h; rw [← h]; exact Nat.le_refl _))
      exact f.below (fun k h => h.elim) (Nat.le_refl _)
    have h2 := H2.out
    rw [Nat.zero_add, List.nil_append] at h2
    refine ⟨v', rfl, h2, fun k e => ?_, hB⟩
    replace e : v'.ownBlock = some k := e
    constructor
    · rcases H4.out with h4 | h4
      · rw [h4] at e
        have e2 : w.heap.size = k := by simpa [Value.ownBlock] using e
        omega
      · rw [h4] at e
        have e2 : w.heap.size + 1 = k := by simpa using e
        omega
    · exact q_lt (q_of_own h2) k e

theorem newRow {motive : World → Prop} (w : World) (z : Array Value) (t : TypeId) (vs : List Value) (hz : z.size = vs.length) (h : ∀ W, W.heap[w.heap.size]? = some (.cells vs.toArray t (0, 0)) → Fr (fun _ => False) w W → motive W) :
    motive ((w.alloc (.cells z t)).setCells w.heap.size 0 vs.toArray.toList) := by
  rw [List.toList_toArray]
  refine h _ ?_ (boxed (w := w) (t := t) hz (fun _ => False)).1
  have hb : (w.alloc (.cells z t)).heap[w.heap.size]? = some (.cells z t (0, 0)) := heap_alloc_new _ _
  obtain ⟨cur', h1, h2, h3⟩ := setCells_row vs 0 _ _ hb (by omega)
  rw [h1]
  congr 2
  apply Array.toList_inj.1
  rw [h3]
  simp [hz]
theorem info88 : (Try.prog.info? 88).map (·.size) = some 6 := by kernel_rfl
theorem ownsRow_one {w : World} {base e sz n : Nat} {v : Value} {xs : List Value} (h : w.ownsRow base e sz v n xs) : v.oneCell' = true := by
  rcases h.2 with ⟨rfl, _⟩ | ⟨g, cap, cur, rfl, _⟩ <;> rfl

theorem clone_end {w W1 W2 w3 : World} {D : DS} {m : Nat} {cv v : Value} {es : Array MapEntry} {clock : Nat} {Dm : DataW Value}
    (h1 : W1.heap[w.heap.size]? = some (.cells #[.int .i64 D.n, .map (some m), cv, .int .i64 D.left, .bool D.down, .int .i64 D.steps] 88 (0, 0))) (f1 : Fr (fun _ => False) w W1)
    (e2 : W2.heap = (W1.alloc (.map es clock)).heap) (f2 : Fr (fun _ => False) W1 W2) (hb : Below W2.heap.size W2 w3)
    (ho : w3.ownsRow 0 93 65 v D.c.length (encC D.c)) (hfr : ∀ k, v.ownBlock = some k → W2.heap.size ≤ k ∧ k < w3.heap.size) (hF : WideElems.Fit Try.prog 3 asIs es clock ∧ es.size ≤ D.u ∧ Dm = DataW.map (List.foldr DataW.insert [] (List.map (WideElems.rg Try.prog 3 asIs) es.toList)))
    (hD : Maps.IsMap Dm ∧ ∀ i : Int, Dm.atKey (.int .i64 i) (.held (arr zeros64)) = .held (arr (D.f i))) (h7 : Good D.c) (h8 : ∀ i, (D.f i).length = 64) :
    (∃ B', IsDisk ((w3.setCell ⟨w.heap.size, 1, none⟩ (.map (some W1.heap.size))).setCell ⟨w.heap.size, 2, none⟩ v) B' w.heap.size D ∧ ∀ k, B' k → w.heap.size ≤ k) ∧
      Fr (fun _ => False) w ((w3.setCell ⟨w.heap.size, 1, none⟩ (.map (some W1.heap.size))).setCell ⟨w.heap.size, 2, none⟩ v) := by
  have hs1 : w.heap.size < W1.heap.size := (Array.getElem?_eq_some_iff.1 h1).1
  have hs2 : W2.heap.size = W1.heap.size + 1 := by rw [e2]; simp
  have hs3 : W2.heap.size ≤ w3.heap.size := hb.size
  have g3 : w3.heap[w.heap.size]? = some (.cells #[.int .i64 D.n, .map (some m), cv, .int .i64 D.left, .bool D.down, .int .i64 D.steps] 88 (0, 0)) := ((hb.block _ (by omega)).trans (f2.keep _ hs1 (fun h => h))).trans h1
  have m3 : w3.heap[W1.heap.size]? = some (.map es clock) := (hb.block _ (by omega)).trans (by rw [e2]; exact heap_alloc_new _ _)
  have g4 := heap_setCell_same w3 w.heap.size 1 _ 88 (.map (some W1.heap.size)) g3
  have g5 := heap_setCell_same (w3.setCell ⟨w.heap.size, 1, none⟩ (.map (some W1.heap.size))) w.heap.size 2 _ 88 v g4
  have far : ∀ k, k ≠ w.heap.size → ((w3.setCell ⟨w.heap.size, 1, none⟩ (.map (some W1.heap.size))).setCell ⟨w.heap.size, 2, none⟩ v).heap[k]? = w3.heap[k]? := fun k hk => (heap_setCell_other _ _ k _ hk).trans (heap_setCell_other _ _ k _ hk)
  have hsz : ((w3.setCell ⟨w.heap.size, 1, none⟩ (.map (some W1.heap.size))).setCell ⟨w.heap.size, 2, none⟩ v).heap.size = w3.heap.size := by simp [World.setCell]
  have hf : Fr (fun _ => False) w ((w3.setCell ⟨w.heap.size, 1, none⟩ (.map (some W1.heap.size))).setCell ⟨w.heap.size, 2, none⟩ v) :=
    (((f1.trans f2 (fun k h => .inl h)).trans (Fr.of_below hb (fun _ => False)) (fun k h => .inl h)).setCell (.inr (Nat.le_refl _)) _).setCell (.inr (Nat.le_refl _)) _
  refine ⟨⟨fun k => w.heap.size ≤ k ∧ k < w3.heap.size, ⟨W1.heap.size, v, ?_, ⟨Nat.le_refl _, by omega⟩, ⟨by omega, by omega⟩, fun k e => ⟨by have := hfr k e; omega, (hfr k e).2⟩, ⟨Dm, ⟨es, clock, (far _ (by omega)).trans m3, hF⟩, hD⟩,
    ownsRow_kept ho (fun k e => far k (by have := hfr k e; omega)), h7, h8, fun k hk => by rw [hsz]; exact hk.2⟩, fun k hk => hk.1⟩, hf⟩
  rw [g5]
  rfl

set_option maxHeartbeats 4000000 in
set_option maxRecDepth 100000 in
theorem clone_calls (g : Nat) (B : Nat → Prop) (D : DS) (w : World) (h : IsDisk w B g D) (hc : D.c.length ≤ 1000000) :
    Calls Try.prog 19 #[.pointer (some ⟨g, 0, none⟩)] w fun e w' => ∃ g', e = .returned (.pointer (some ⟨g', 0, none⟩)) ∧ (∃ B', IsDisk w' B' g' D ∧ ∀ k, B' k → w.heap.size ≤ k) ∧ Fr (fun _ => False) w w' := by
  have i88 := info88
  have u88 := Try.underlying88
  obtain ⟨m, cv, h1, h2, h3, h4, ⟨Dm, ⟨es, clock, hm, hF⟩, hD2⟩, h6, h7, h8, h9⟩ := h
  obtain ⟨dn, df, dc, dl, dd, ds, du⟩ := D
  dsimp only at *
  have HB : Aside0 (w.rangeAt g 0 [.int .i64 dn, .map (some m), cv, .int .i64 dl, .bool dd, .int .i64 ds]) := ⟨fun j v hj => by
    rw [cell_of_row w g _ _ 88 (0, 0) h1, Nat.zero_add]
    simpa using hj⟩
  have HO : Aside0 (∀ v ∈ [Value.int .i64 dn, .map (some m), cv, .int .i64 dl, .bool dd, .int .i64 ds], v.oneCell' = true) := ⟨fun v hv => by
    have := ownsRow_one h6
    rcases List.mem_cons.1 hv with rfl | hv
    · rfl
    rcases List.mem_cons.1 hv with rfl | hv
    · rfl
    rcases List.mem_cons.1 hv with rfl | hv
    · exact this
    rcases List.mem_cons.1 hv with rfl | hv
    · rfl
    rcases List.mem_cons.1 hv with rfl | hv
    · rfl
    rcases List.mem_cons.1 hv with rfl | hv
    · rfl
    · cases hv⟩
  have H6 := Aside0.mk h6
  have H7 := Aside0.mk h7
  have H8 := Aside0.mk h8
  have H1 := Aside0.mk h1
  have HM := Aside0.mk hm
  have HF := Aside0.mk hF
  have HD2 := Aside0.mk hD2
  have hgl : g < w.heap.size := h9 g h2
  have hml : Aside0 (m < w.heap.size) := ⟨h9 m h3⟩
  have H4 : Aside0 (∀ k, cv.ownBlock = some k → k < w.heap.size) := ⟨fun k e => h9 k (h4 k e)⟩
  clear h1 h2 h3 h4 h6 h7 h8 h9 hm hF hD2
  go_enter Try.func19, Try.ntmps19
  go_wp2_with (first
    | ((with_reducible refine gate_dst (N := 6) rfl ?_); refine wpList_load_mid rfl 88 (.tmp 5) rfl g 0 rfl [.int .i64 dn, .map (some m), cv, .int .i64 dl, .bool dd, .int .i64 ds] _ HB.out u88 rfl i88 ?_)
    | ((with_reducible refine gate_store (t := 88) (p := 3) rfl ?_); refine wpList_store_mid rfl 88 (.tmp 3) (.tmp 6) rfl w.heap.size 0 [.int .i64 dn, .map (some m), cv, .int .i64 dl, .bool dd, .int .i64 ds].toArray rfl rfl (there93 w _ 88 [.int .i64 dn, .map (some m), cv, .int .i64 dl, .bool dd, .int .i64 ds] (by rfl)) i88 (all_oneCell_toArray HO.out) ?_; refine newRow (motive := fun W => wpList _ _ _ _ _ W) w _ 88 [.int .i64 dn, .map (some m), cv, .int .i64 dl, .bool dd, .int .i64 ds] (by rfl) (fun W1 hh1 hf1 => ?_)))
  have HF1 := Aside0.mk hf1
  have HH1 := Aside0.mk hh1
  have c1 : W1.cell? ⟨g, 1, none⟩ = some (.map (some m)) := (World.cell?_of_block (w := w) (hf1.keep g hgl (fun h => h))).trans (HB.out 1 _ rfl)
  have c2 : W1.cell? ⟨g, 2, none⟩ = some cv := (World.cell?_of_block (w := w) (hf1.keep g hgl (fun h => h))).trans (HB.out 2 _ rfl)
  have hgl1 : g < W1.heap.size := Nat.lt_of_lt_of_le hgl hf1.size
  have hg1 : Aside0 (w.heap.size < W1.heap.size) := ⟨(Array.getElem?_eq_some_iff.1 hh1).1⟩
  have HMC : Aside0 (∀ (W : World), W.heap = W1.heap → Calls Try.prog 48 #[.map (some m)] W fun e w' => e = .returned (.map (some W1.heap.size)) ∧ w' = W.alloc (.map es clock)) := ⟨fun W hW => by
    have := mclone_calls m es clock W (by rw [hW]; exact (HF1.out.keep m hml.out (fun h => h)).trans HM.out)
    rwa [hW] at this⟩
  have HSC : Aside0 (∀ (W : World), W.heap = (W1.alloc (.map es clock)).heap → Calls Try.prog 49 #[cv] W fun e w' => ∃ A c, e = .returned (.slice A dc.length c) ∧ w'.ownsRow 0 93 65 (.slice A dc.length c) dc.length (encC dc) ∧ (∀ k, (Value.slice A dc.length c).ownBlock = some k → W.heap.size ≤ k ∧ k < w'.heap.size) ∧ Below W.heap.size W w' ∧ w'.cell? ⟨w.heap.size, 1, none⟩ = some (.map (some m)) ∧ w'.cell? ⟨w.heap.size, 2, none⟩ = some cv ∧ w'.frozen? ⟨w.heap.size, 1, none⟩ = false ∧ w'.frozen? ⟨w.heap.size, 2, none⟩ = false) := ⟨fun W hW => by
    refine (sclone_calls cv dc.length (encC dc) W (ownsRow_kept H6.out (fun k e => by
      rw [hW]
      exact (Below.heap_alloc _ _ _ (Nat.lt_of_lt_of_le (H4.out k e) HF1.out.size)).trans (HF1.out.keep k (H4.out k e) (fun h => h)))) (one_encC dc) hc).mono ?_
    rintro e w' ⟨v, rfl, h1, h2, h3⟩
    obtain ⟨A, c, rfl, _⟩ := q_slice (q_of_own h1)
    have hb := (h3.block w.heap.size (by have := hg1.out; rw [hW]; simp; omega)).trans ((by rw [hW]; exact Below.heap_alloc _ _ _ hg1.out : W.heap[w.heap.size]? = W1.heap[w.heap.size]?).trans HH1.out)
    refine ⟨A, c, rfl, h1, h2, h3, ?_, ?_, frozen_of_row w' _ _ _ 88 hb, frozen_of_row w' _ _ _ 88 hb⟩
    · rw [cell_of_row w' _ _ _ 88 (0, 0) hb]
      rfl
    · rw [cell_of_row w' _ _ _ 88 (0, 0) hb]
      rfl⟩
  clear hh1 hf1
  go_region_with (first
    | (go_at_call 48; refine (HMC.out _ (by rfl)).mono ?_; rintro e w' ⟨rfl, rfl⟩)
    | (go_at_call 49; refine (HSC.out _ (by rfl)).mono ?_; rintro e w3 ⟨A3, c3, rfl, ho, hfr, hbel, d1, d2, d3, d4⟩; have HOO := Aside0.mk ho; have HFR := Aside0.mk hfr; have HBEL := Aside0.mk hbel; clear ho hfr hbel))
  all_goals (
    have E := clone_end (D := ⟨dn, df, dc, dl, dd, ds, du⟩) (W2 := (W1.alloc (.map es clock)).drew) HH1.out HF1.out rfl (((Fr.refl _ W1).alloc _).drew) HBEL.out HOO.out HFR.out HF.out HD2.out H7.out H8.out
    have EE := Aside0.mk E
    clear E d1 d2 d3 d4
    go_wp2_with fail
    go_ret
    exact ⟨w.heap.size, rfl, EE.out.1, EE.out.2⟩)
end Go.Proofs.Ytppgbfkhiofjiaa.X
