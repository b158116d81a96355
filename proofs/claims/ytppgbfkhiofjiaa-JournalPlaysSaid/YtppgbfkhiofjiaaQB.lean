/-
  Of the proof of JournalPlays (put together by wip/tools/mkclaimj.py):
  The contracts of maps.Clone, slices.Clone and Clone.
  The contract of Pending.
  The reference's disk in memory: what a block of its type stands for, and how it stays.
  The contracts of the reference's disk: fails, Arms, Sectors, New; and of the program's Sectors, Down, Steps.
  The contracts of the reference's lasts, Flush and Mend.
  The contracts of the reference's Flush and Mend.
  The contract of the reference's Write.
  The contracts of the reference's Read and Pending, and of SameInts.
  The contracts of SameInts and of same.
-/
import Derived.Test.YtppgbfkhiofjiaaQA
import Derived.Shelf.SlMaps.Clone
import Derived.Lib.SliceRun
import Derived.Deep.RegionWith
import Derived.Deep.RegionLaw
import Derived.Laws.IdiomCopy
import Derived.IntWalk
import Derived.Deep.QuietTactic
import Derived.BigQuiet
namespace Go.Proofs.Ytppgbfkhiofjiaa.X
open Go.RowKit Go.Proofs.YtppgbfkhiofjiaaW.PrintWords Go.Proofs.YtppgbfkhiofjiaaW.PrintLast Go.Proofs.YtppgbfkhiofjiaaW.PrintMore
set_option linter.unusedVariables false
set_option linter.unusedSimpArgs false

set_option maxHeartbeats 2000000 in
set_option maxRecDepth 100000 in
theorem mclone_calls (b : Nat) (es : Array MapEntry) (clock : Nat) (w : World) (hb : w.heap[b]? = some (.map es clock)) :
    Calls Try.prog 48 #[.map (some b)] w fun e w' => e = .returned (.map (some w.heap.size)) ∧ w' = w.alloc (.map es clock) := by
  have hq := fun w => run_eql_map_nil_sl (P := Try.prog) w 85 _ _ (some b) Try.underlying85
  go_enter Try.func48, Try.ntmps48
  go_wp2
  rw [run_callFunc_extern Try.func72 (by kernel_rfl) (by kernel_rfl) (by kernel_rfl) (e := Extern.MapsClone.clone) (by kernel_rfl), run_maps_clone_sl w 85 hb]
  simp only [Result.andThen]
  rw [Oper.upon_value]
  go_wp2
  rw [run_typeAssert_map_sl _ 85 20 _ _ _ Try.underlying85]
  simp only [Result.andThen]
  rw [Oper.upon_value]
  go_wp2
  go_ret
  exact ⟨rfl, rfl⟩

/-- An append onto an own row, whatever is appended. -/
theorem wpList_append_own {P : Program} {w : World} {ops : Array Oper} {rest : List Oper} {o : Oper} {a : Act} {Q : Exit → Act → World → Prop} (hgd : o.guard = none) (s x : Operand) (t : TypeId)
    (ho : o.op = .call { callee := .builtin .append, args := #[s, x], argTypes := #[t, t] })
    (base : Nat) (e : TypeId) (z : Value) (size bytes : Nat) (ht : P.underlying t = some (.slice e)) (hinfo : (P.info? e).map (fun i => (i.zero, i.size, i.bytes)) = some (some z, size, bytes)) (hzs : z.cells.size = size) (hsz : 0 < size)
    (v : Value) (n : Nat) (xs : List Value) (hs : a.eval s = v) (hown : w.ownsRow base e size v n xs)
    (ad : Addr) (m c : Nat) (news : List Value) (hx : a.eval x = .slice (some ad) m c) (hl : news.length = m * size) (hnews : ∀ j u, news[j]? = some u → w.cell? (ad.add j) = some u) (h1 : ∀ u ∈ news, u.oneCell' = true)
    (h63 : n + m ≤ maxLen) (hbytes : (n + m) * bytes ≤ 140737488355328) (hbase : base ≤ w.heap.size)
    (h : ∀ v' w', w'.ownsRow base e size v' (n + m) (xs ++ news) → w.grownBy w' v.ownBlock → (v'.ownBlock = v.ownBlock ∨ v'.ownBlock = some w.heap.size) → wpList P ops Q rest (a.put o.dst v') w') : wpList P ops Q (o :: rest) a w := by
  obtain ⟨i0, hi, hzz⟩ := Option.map_eq_some_iff.1 hinfo
  simp only [Prod.mk.injEq] at hzz
  obtain ⟨hz0, hz1, hz2⟩ := hzz
  refine wpList_plain hgd fun K hK => ?_
  obtain ⟨v', w', hr, h2, h3, _, h4⟩ := run_append_own_at (P := P) w base t o.type e i0 z size bytes ht hi hz0 hz1 hz2 hzs hsz v n xs hown ad m c news hl hnews h1 h63 hbytes hbase
  unfold Oper.wp execOp
  simp only [ho, resolve, invoke, builtin, Sem.run_bind, Sem.run_pure, Result.andThen_ok, List.map_toArray, List.map_cons, List.map_nil, hs, hx, hr]
  exact hK _ _ (h v' w' h2 h3 h4)
theorem one_encC : ∀ (c : List (Int × List Int)), ∀ u ∈ encC c, u.oneCell' = true
  | [], u, h => by simp [encC] at h
  | p :: c, u, h => by
    rw [encC] at h
    rcases List.mem_append.1 h with h | h
    · exact one_encP p u h
    · exact one_encC c u h

set_option maxHeartbeats 2000000 in
set_option maxRecDepth 100000 in
theorem sclone_calls (cv : Value) (n : Nat) (xs : List Value) (w : World) (ho : w.ownsRow 0 93 65 cv n xs) (h1 : ∀ u ∈ xs, u.oneCell' = true) (hn : n ≤ 1000000) :
    Calls Try.prog 49 #[cv] w fun e w' => ∃ v, e = .returned v ∧ w'.ownsRow 0 93 65 v n xs ∧ (∀ k, v.ownBlock = some k → w.heap.size ≤ k ∧ k < w'.heap.size) ∧ Below w.heap.size w w' := by
  have hxl := ho.1
  have HO := Aside0.mk ho
  rcases ho.2 with ⟨rfl, rfl⟩ | ⟨gb, cap, cur, rfl, hb, hh, hnc, hcm, hcs, ht⟩
  · have hq : ∀ w, (binOp .eql 86 (.slice none 0 0) (.slice none 0 0)).run Try.prog w = .ok (.bool true) w := fun w => Lib.run_eql_slice_nil w 86 93 none 0 0 0 0 Try.underlying86
    clear ho
    go_enter Try.func49, Try.ntmps49
    go_wp2
    go_ret
    exact ⟨_, rfl, HO.out, (fun k e => by cases e), Below.refl _ _⟩
  · have hq : ∀ w, (binOp .eql 86 (.slice (some ⟨gb, 0, none⟩) n cap) (.slice none 0 0)).run Try.prog w = .ok (.bool false) w := fun w => Lib.run_eql_slice_nil w 86 93 (some ⟨gb, 0, none⟩) n cap 0 0 Try.underlying86
    have hcells := HO.out.cells (g := gb) rfl
    have HC : Aside0 (∀ j u, xs[j]? = some u → (w.alloc (.cells #[] 93)).cell? ((⟨gb, 0, none⟩ : Addr).add j) = some u) := ⟨fun j u hu => by
      have h := hcells j u hu
      rw [← h]
      exact World.cell?_of_block (Below.heap_alloc _ _ _ (by
        rcases Nat.lt_or_ge gb w.heap.size with h' | h'
        · rw [Addr.add_mid]; exact h'
        · rw [Array.getElem?_eq_none h'] at hh; cases hh))⟩
    have HK : Aside0 ((w.alloc (.cells #[] 93)).ownsRow 0 93 65 (.slice (some ⟨w.heap.size, 0, none⟩) 0 0) 0 []) := ⟨⟨rfl, .inr ⟨w.heap.size, 0, #[], rfl, Nat.zero_le _, heap_alloc_new _ _, Nat.le_refl _, by decide, rfl, rfl⟩⟩⟩
    have H1 := Aside0.mk h1
    clear ho hh hcs ht hcells h1
    go_enter Try.func49, Try.ntmps49
    go_wp2_with ((with_reducible refine gate_builtin (b := .append) (xs := #[.tmp 5, .tmp 6]) rfl ?_); at_builtin; refine wpList_append_own rfl (.tmp 5) (.tmp 6) 86 rfl 0 93 _ 65 72 Try.underlying86 info93 rfl (by omega) (.slice (some ⟨w.heap.size, 0, none⟩) 0 0) 0 [] rfl HK.out ⟨gb, 0, none⟩ n cap xs rfl hxl HC.out H1.out (by unfold maxLen; omega) (by omega) (Nat.zero_le _) ?_; intro v' w' h2 h3 h4; have H2 := Aside0.mk h2; have H3 := Aside0.mk h3; have H4 := Aside0.mk h4; clear h2 h3 h4)
    go_ret
    have hB : Below w.heap.size w w' := by
      have f := ((Fr.refl (fun _ => False) w).alloc (.cells #[] 93)).trans (Fr.of_grownBy H3.out) (fun b h => .inr (by injection h with h; rw [← h]; exact Nat.le_refl _))
      exact f.below (fun k h => h.elim) (Nat.le_refl _)
    have h2 := H2.out
    rw [Nat.zero_add, List.nil_append] at h2
    refine ⟨v', rfl, h2, fun k e => ?_, hB⟩
    replace e : v'.ownBlock = some k := e
    constructor
    · rcases H4.out with h4 | h4
      · rw [h4] at e
        have e2 : w.heap.size = k := by simpa [Value.ownBlock] using e
        omega
      · rw [h4] at e
        have e2 : w.heap.size + 1 = k := by simpa using e
        omega
    · exact q_lt (q_of_own h2) k e

theorem newRow {motive : World → Prop} (w : World) (z : Array Value) (t : TypeId) (vs : List Value) (hz : z.size = vs.length) (h : ∀ W, W.heap[w.heap.size]? = some (.cells vs.toArray t (0, 0)) → Fr (fun _ => False) w W → motive W) :
    motive ((w.alloc (.cells z t)).setCells w.heap.size 0 vs.toArray.toList) := by
  rw [List.toList_toArray]
  refine h _ ?_ (boxed (w := w) (t := t) hz (fun _ => False)).1
  have hb : (w.alloc (.cells z t)).heap[w.heap.size]? = some (.cells z t (0, 0)) := heap_alloc_new _ _
  obtain ⟨cur', h1, h2, h3⟩ := setCells_row vs 0 _ _ hb (by omega)
  rw [h1]
  congr 2
  apply Array.toList_inj.1
  rw [h3]
  simp [hz]
theorem info88 : (Try.prog.info? 88).map (·.size) = some 6 := by kernel_rfl
theorem ownsRow_one {w : World} {base e sz n : Nat} {v : Value} {xs : List Value} (h : w.ownsRow base e sz v n xs) : v.oneCell' = true := by
  rcases h.2 with ⟨rfl, _⟩ | ⟨g, cap, cur, rfl, _⟩ <;> rfl

theorem clone_end {w W1 W2 w3 : World} {D : DS} {m : Nat} {cv v : Value} {es : Array MapEntry} {clock : Nat} {Dm : DataW Value}
    (h1 : W1.heap[w.heap.size]? = some (.cells #[.int .i64 D.n, .map (some m), cv, .int .i64 D.left, .bool D.down, .int .i64 D.steps] 88 (0, 0))) (f1 : Fr (fun _ => False) w W1)
    (e2 : W2.heap = (W1.alloc (.map es clock)).heap) (f2 : Fr (fun _ => False) W1 W2) (hb : Below W2.heap.size W2 w3)
    (ho : w3.ownsRow 0 93 65 v D.c.length (encC D.c)) (hfr : ∀ k, v.ownBlock = some k → W2.heap.size ≤ k ∧ k < w3.heap.size) (hF : WideElems.Fit Try.prog 3 asIs es clock ∧ es.size ≤ D.u ∧ Dm = DataW.map (List.foldr DataW.insert [] (List.map (WideElems.rg Try.prog 3 asIs) es.toList)))
    (hD : Maps.IsMap Dm ∧ ∀ i : Int, Dm.atKey (.int .i64 i) (.held (arr zeros64)) = .held (arr (D.f i))) (h7 : Good D.c) (h8 : ∀ i, (D.f i).length = 64) :
    (∃ B', IsDisk ((w3.setCell ⟨w.heap.size, 1, none⟩ (.map (some W1.heap.size))).setCell ⟨w.heap.size, 2, none⟩ v) B' w.heap.size D ∧ ∀ k, B' k → w.heap.size ≤ k) ∧
      Fr (fun _ => False) w ((w3.setCell ⟨w.heap.size, 1, none⟩ (.map (some W1.heap.size))).setCell ⟨w.heap.size, 2, none⟩ v) := by
  have hs1 : w.heap.size < W1.heap.size := (Array.getElem?_eq_some_iff.1 h1).1
  have hs2 : W2.heap.size = W1.heap.size + 1 := by rw [e2]; simp
  have hs3 : W2.heap.size ≤ w3.heap.size := hb.size
  have g3 : w3.heap[w.heap.size]? = some (.cells #[.int .i64 D.n, .map (some m), cv, .int .i64 D.left, .bool D.down, .int .i64 D.steps] 88 (0, 0)) := ((hb.block _ (by omega)).trans (f2.keep _ hs1 (fun h => h))).trans h1
  have m3 : w3.heap[W1.heap.size]? = some (.map es clock) := (hb.block _ (by omega)).trans (by rw [e2]; exact heap_alloc_new _ _)
  have g4 := heap_setCell_same w3 w.heap.size 1 _ 88 (.map (some W1.heap.size)) g3
  have g5 := heap_setCell_same (w3.setCell ⟨w.heap.size, 1, none⟩ (.map (some W1.heap.size))) w.heap.size 2 _ 88 v g4
  have far : ∀ k, k ≠ w.heap.size → ((w3.setCell ⟨w.heap.size, 1, none⟩ (.map (some W1.heap.size))).setCell ⟨w.heap.size, 2, none⟩ v).heap[k]? = w3.heap[k]? := fun k hk => (heap_setCell_other _ _ k _ hk).trans (heap_setCell_other _ _ k _ hk)
  have hsz : ((w3.setCell ⟨w.heap.size, 1, none⟩ (.map (some W1.heap.size))).setCell ⟨w.heap.size, 2, none⟩ v).heap.size = w3.heap.size := by simp [World.setCell]
  have hf : Fr (fun _ => False) w ((w3.setCell ⟨w.heap.size, 1, none⟩ (.map (some W1.heap.size))).setCell ⟨w.heap.size, 2, none⟩ v) :=
    (((f1.trans f2 (fun k h => .inl h)).trans (Fr.of_below hb (fun _ => False)) (fun k h => .inl h)).setCell (.inr (Nat.le_refl _)) _).setCell (.inr (Nat.le_refl _)) _
  refine ⟨⟨fun k => w.heap.size ≤ k ∧ k < w3.heap.size, ⟨W1.heap.size, v, ?_, ⟨Nat.le_refl _, by omega⟩, ⟨by omega, by omega⟩, fun k e => ⟨by have := hfr k e; omega, (hfr k e).2⟩, ⟨Dm, ⟨es, clock, (far _ (by omega)).trans m3, hF⟩, hD⟩,
    ownsRow_kept ho (fun k e => far k (by have := hfr k e; omega)), h7, h8, fun k hk => by rw [hsz]; exact hk.2⟩, fun k hk => hk.1⟩, hf⟩
  rw [g5]
  rfl

set_option maxHeartbeats 4000000 in
set_option maxRecDepth 100000 in
theorem clone_calls (g : Nat) (B : Nat → Prop) (D : DS) (w : World) (h : IsDisk w B g D) (hc : D.c.length ≤ 1000000) :
    Calls Try.prog 19 #[.pointer (some ⟨g, 0, none⟩)] w fun e w' => ∃ g', e = .returned (.pointer (some ⟨g', 0, none⟩)) ∧ (∃ B', IsDisk w' B' g' D ∧ ∀ k, B' k → w.heap.size ≤ k) ∧ Fr (fun _ => False) w w' := by
  have i88 := info88
  have u88 := Try.underlying88
  obtain ⟨m, cv, h1, h2, h3, h4, ⟨Dm, ⟨es, clock, hm, hF⟩, hD2⟩, h6, h7, h8, h9⟩ := h
  obtain ⟨dn, df, dc, dl, dd, ds, du⟩ := D
  dsimp only at *
  have HB : Aside0 (w.rangeAt g 0 [.int .i64 dn, .map (some m), cv, .int .i64 dl, .bool dd, .int .i64 ds]) := ⟨fun j v hj => by
    rw [cell_of_row w g _ _ 88 (0, 0) h1, Nat.zero_add]
    simpa using hj⟩
  have HO : Aside0 (∀ v ∈ [Value.int .i64 dn, .map (some m), cv, .int .i64 dl, .bool dd, .int .i64 ds], v.oneCell' = true) := ⟨fun v hv => by
    have := ownsRow_one h6
    rcases List.mem_cons.1 hv with rfl | hv
    · rfl
    rcases List.mem_cons.1 hv with rfl | hv
    · rfl
    rcases List.mem_cons.1 hv with rfl | hv
    · exact this
    rcases List.mem_cons.1 hv with rfl | hv
    · rfl
    rcases List.mem_cons.1 hv with rfl | hv
    · rfl
    rcases List.mem_cons.1 hv with rfl | hv
    · rfl
    · cases hv⟩
  have H6 := Aside0.mk h6
  have H7 := Aside0.mk h7
  have H8 := Aside0.mk h8
  have H1 := Aside0.mk h1
  have HM := Aside0.mk hm
  have HF := Aside0.mk hF
  have HD2 := Aside0.mk hD2
  have hgl : g < w.heap.size := h9 g h2
  have hml : Aside0 (m < w.heap.size) := ⟨h9 m h3⟩
  have H4 : Aside0 (∀ k, cv.ownBlock = some k → k < w.heap.size) := ⟨fun k e => h9 k (h4 k e)⟩
  clear h1 h2 h3 h4 h6 h7 h8 h9 hm hF hD2
  go_enter Try.func19, Try.ntmps19
  go_wp2_with (first
    | ((with_reducible refine gate_dst (N := 6) rfl ?_); refine wpList_load_mid rfl 88 (.tmp 5) rfl g 0 rfl [.int .i64 dn, .map (some m), cv, .int .i64 dl, .bool dd, .int .i64 ds] _ HB.out u88 rfl i88 ?_)
    | ((with_reducible refine gate_store (t := 88) (p := 3) rfl ?_); refine wpList_store_mid rfl 88 (.tmp 3) (.tmp 6) rfl w.heap.size 0 [.int .i64 dn, .map (some m), cv, .int .i64 dl, .bool dd, .int .i64 ds].toArray rfl rfl (there93 w _ 88 [.int .i64 dn, .map (some m), cv, .int .i64 dl, .bool dd, .int .i64 ds] (by rfl)) i88 (all_oneCell_toArray HO.out) ?_; refine newRow (motive := fun W => wpList _ _ _ _ _ W) w _ 88 [.int .i64 dn, .map (some m), cv, .int .i64 dl, .bool dd, .int .i64 ds] (by rfl) (fun W1 hh1 hf1 => ?_)))
  have HF1 := Aside0.mk hf1
  have HH1 := Aside0.mk hh1
  have c1 : W1.cell? ⟨g, 1, none⟩ = some (.map (some m)) := (World.cell?_of_block (w := w) (hf1.keep g hgl (fun h => h))).trans (HB.out 1 _ rfl)
  have c2 : W1.cell? ⟨g, 2, none⟩ = some cv := (World.cell?_of_block (w := w) (hf1.keep g hgl (fun h => h))).trans (HB.out 2 _ rfl)
  have hgl1 : g < W1.heap.size := Nat.lt_of_lt_of_le hgl hf1.size
  have hg1 : Aside0 (w.heap.size < W1.heap.size) := ⟨(Array.getElem?_eq_some_iff.1 hh1).1⟩
  have HMC : Aside0 (∀ (W : World), W.heap = W1.heap → Calls Try.prog 48 #[.map (some m)] W fun e w' => e = .returned (.map (some W1.heap.size)) ∧ w' = W.alloc (.map es clock)) := ⟨fun W hW => by
    have := mclone_calls m es clock W (by rw [hW]; exact (HF1.out.keep m hml.out (fun h => h)).trans HM.out)
    rwa [hW] at this⟩
  have HSC : Aside0 (∀ (W : World), W.heap = (W1.alloc (.map es clock)).heap → Calls Try.prog 49 #[cv] W fun e w' => ∃ A c, e = .returned (.slice A dc.length c) ∧ w'.ownsRow 0 93 65 (.slice A dc.length c) dc.length (encC dc) ∧ (∀ k, (Value.slice A dc.length c).ownBlock = some k → W.heap.size ≤ k ∧ k < w'.heap.size) ∧ Below W.heap.size W w' ∧ w'.cell? ⟨w.heap.size, 1, none⟩ = some (.map (some m)) ∧ w'.cell? ⟨w.heap.size, 2, none⟩ = some cv ∧ w'.frozen? ⟨w.heap.size, 1, none⟩ = false ∧ w'.frozen? ⟨w.heap.size, 2, none⟩ = false) := ⟨fun W hW => by
    refine (sclone_calls cv dc.length (encC dc) W (ownsRow_kept H6.out (fun k e => by
      rw [hW]
      exact (Below.heap_alloc _ _ _ (Nat.lt_of_lt_of_le (H4.out k e) HF1.out.size)).trans (HF1.out.keep k (H4.out k e) (fun h => h)))) (one_encC dc) hc).mono ?_
    rintro e w' ⟨v, rfl, h1, h2, h3⟩
    obtain ⟨A, c, rfl, _⟩ := q_slice (q_of_own h1)
    have hb := (h3.block w.heap.size (by have := hg1.out; rw [hW]; simp; omega)).trans ((by rw [hW]; exact Below.heap_alloc _ _ _ hg1.out : W.heap[w.heap.size]? = W1.heap[w.heap.size]?).trans HH1.out)
    refine ⟨A, c, rfl, h1, h2, h3, ?_, ?_, frozen_of_row w' _ _ _ 88 hb, frozen_of_row w' _ _ _ 88 hb⟩
    · rw [cell_of_row w' _ _ _ 88 (0, 0) hb]
      rfl
    · rw [cell_of_row w' _ _ _ 88 (0, 0) hb]
      rfl⟩
  clear hh1 hf1
  go_region_with (first
    | (go_at_call 48; refine (HMC.out _ (by rfl)).mono ?_; rintro e w' ⟨rfl, rfl⟩)
    | (go_at_call 49; refine (HSC.out _ (by rfl)).mono ?_; rintro e w3 ⟨A3, c3, rfl, ho, hfr, hbel, d1, d2, d3, d4⟩; have HOO := Aside0.mk ho; have HFR := Aside0.mk hfr; have HBEL := Aside0.mk hbel; clear ho hfr hbel))
  all_goals (
    have E := clone_end (D := ⟨dn, df, dc, dl, dd, ds, du⟩) (W2 := (W1.alloc (.map es clock)).drew) HH1.out HF1.out rfl (((Fr.refl _ W1).alloc _).drew) HBEL.out HOO.out HFR.out HF.out HD2.out H7.out H8.out
    have EE := Aside0.mk E
    clear E d1 d2 d3 d4
    go_wp2_with fail
    go_ret
    exact ⟨w.heap.size, rfl, EE.out.1, EE.out.2⟩)
end Go.Proofs.Ytppgbfkhiofjiaa.X

namespace Go.Proofs.Ytppgbfkhiofjiaa.X
open Go.RowKit Go.Proofs.YtppgbfkhiofjiaaW.PrintWords Go.Proofs.YtppgbfkhiofjiaaW.PrintLast Go.Proofs.YtppgbfkhiofjiaaW.PrintMore
set_option linter.unusedVariables false
set_option linter.unusedSimpArgs false

theorem info3' : (Try.prog.info? 3).map (fun i => (i.zero, i.size, i.bytes)) = some (some (.int .i64 0), 1, 8) := by kernel_rfl
def keysC (c : List (Int × List Int)) : List Int := c.map (·.1)

set_option maxHeartbeats 4000000 in
set_option maxRecDepth 100000 in
theorem pending_calls (g : Nat) (B : Nat → Prop) (D : DS) (w : World) (h : IsDisk w B g D) (hc : D.c.length ≤ 1000000) :
    Calls Try.prog 20 #[.pointer (some ⟨g, 0, none⟩)] w fun e w' => ∃ v, e = .returned v ∧ w'.ownsRow w.heap.size 3 1 v D.c.length (nums .i64 (keysC D.c)) ∧ Fr (fun _ => False) w w' := by
  obtain ⟨m, cv, c0, c1, c2, c3, c4, c5, cf, hlt, im, own, ob, bm, bg⟩ := h.cells
  have H := Aside0.mk h
  have hGG := h.good
  obtain ⟨N, hN⟩ : ∃ N, D.c.length = N := ⟨_, rfl⟩
  have HN := Aside0.mk hN
  rw [hN] at hc own
  obtain ⟨A, cap, rfl⟩ : ∃ A cap, cv = .slice A N cap := by
    rcases own.2 with ⟨rfl, rfl⟩ | ⟨gb, cap, cur, rfl, _⟩
    · exact ⟨none, 0, rfl⟩
    · exact ⟨_, _, rfl⟩
  have HG := Aside0.mk hGG
  have C2 := Aside0.mk c2
  have HF0 := Aside0.mk (Fr.refl (fun _ => False) w)
  clear c0 c1 c3 c4 c5 cf im own ob bm bg h hN hGG
  go_enter Try.func20, Try.ntmps20
  go_wp2_with fail
  go_loopg [3, 11] N (fun kq v3 v11 w' => ∃ (i : Nat) (A3 : Option Addr) (c3 : Nat), v3 = .slice A3 i c3 ∧ v11 = .int .i64 (i : Int) ∧ Aside0 (i + kq = N) ∧ Aside0 (w'.ownsRow w.heap.size 3 1 (.slice A3 i c3) i (nums .i64 (keysC (D.c.take i)))) ∧ Aside0 (Fr (fun _ => False) w w'))
  case atStart => exact ⟨0, none, 0, rfl, rfl, ⟨by omega⟩, ⟨⟨rfl, .inl ⟨rfl, rfl⟩⟩⟩, HF0⟩
  case round =>
    clear HF0
    obtain ⟨i, A3, c3, rfl, rfl, HI, HO, HF⟩ := hrel
    cases gk with
    | zero =>
      have hi : i = N := by have := HI.out; omega
      subst hi
      go_wp2_with fail
      go_ret
      refine ⟨_, rfl, ?_, HF.out⟩
      have := HO.out
      rw [List.take_of_length_le (by rw [HN.out]; exact Nat.le_refl _)] at this
      rw [HN.out]
      exact this
    | succ k1 =>
      have hi : i < N := by have := HI.out; omega
      have hi0 : (0 : Int) ≤ (i : Int) := by omega
      have hi1 : (i : Int) < (N : Int) := by omega
      obtain ⟨p, hp⟩ : ∃ p, D.c[i]? = some p := ⟨_, List.getElem?_eq_getElem (by have := HN.out; omega)⟩
      have HD := H.out.fr HF.out (fun _ _ h => h)
      obtain ⟨m', cv', c0, c1, c2, c3', c4, c5, cf, hltg, im, own, ob, bm, bg⟩ := HD.cells
      have e := (World.cell?_of_block (w := w) (a := ⟨g, 2, none⟩) (HF.out.keep g hlt (fun h => h))).trans C2.out
      rw [c2] at e
      injection e with e
      subst e
      obtain ⟨gb, cap', e, hr⟩ := HD.at own hp
      injection e with e1 e2 e3
      subst e1
      have u93 := Try.underlying93
      have hGp := HG.out.1 p (List.mem_of_getElem? hp)
      have hlp : Aside0 ((encP p).length = 65) := ⟨encP_length hGp.1⟩
      have i93 : (Try.prog.info? 93).map (·.size) = some (encP p).length := by rw [hlp.out]; kernel_rfl
      have HT : Aside0 (nums .i64 (keysC (D.c.take (i + 1))) = nums .i64 (keysC (D.c.take i)) ++ [.int .i64 p.1]) := ⟨by
        rw [List.take_add_one, hp]
        simp [keysC, nums]⟩
      have HI3 : Aside0 (i + 1 + k1 = N) := ⟨by have := HI.out; omega⟩
      have hone : ∀ u ∈ [Value.int .i64 p.1], u.oneCell' = true := fun u hu => by
        rw [List.mem_singleton.1 hu]
        rfl
      clear c0 c1 c2 c3' c4 c5 cf im own ob bm bg e2 e3 hp HD hGp
      go_wp2_with (first
        | ((with_reducible refine gate_dst (N := 14) rfl ?_); refine wpList_load_mid rfl 93 (.tmp 13) rfl gb (i * 65) rfl (encP p) _ hr u93 rfl i93 ?_; clear hr)
        | ((with_reducible refine gate_store (t := 93) (p := 5) rfl ?_); refine wpList_store_mid rfl 93 (.tmp 5) (.tmp 14) rfl wr.heap.size 0 (encP p).toArray rfl rfl (there93 wr _ 93 (encP p) (by rw [hlp.out]; rfl)) (by rw [i93]; rfl) (all_oneCell_toArray (one_encP p)) ?_; refine new93 (motive := fun W => wpList _ _ _ _ _ W) wr _ 93 (encP p) (by rw [hlp.out]; rfl) (fun W1 hr1 hs1 hf1 => ?_); have hb0 : W1.cell? ⟨wr.heap.size, 0, none⟩ = some (.int .i64 p.1) := hr1 0 _ rfl; have HF1 := Aside0.mk hf1; clear hr1 hf1)
        | ((with_reducible refine gate_builtin (b := .append) (xs := #[.tmp 15, .tmp 18]) rfl ?_); at_builtin; refine wpList_append_own rfl (.tmp 15) (.tmp 18) 45 rfl w.heap.size 3 (.int .i64 0) 1 8 Try.underlying45 info3' rfl (by omega) (.slice A3 i c3) i (nums .i64 (keysC (D.c.take i))) rfl (ownsRow_kept HO.out (fun k e => (Below.heap_alloc _ _ _ (Nat.lt_of_lt_of_le (q_lt (q_of_own HO.out) k e) HF1.out.size)).trans (HF1.out.keep k (q_lt (q_of_own HO.out) k e) (fun h => h)))) ⟨W1.heap.size, 0, none⟩ 1 1 [.int .i64 p.1] rfl rfl (World.news_of_block (cs := #[.int .i64 p.1]) (t := 3) (fr := (0, 0)) (heap_alloc_new _ _)) hone (by unfold maxLen; omega) (by omega) (by have := HF.out.size; have := HF1.out.size; simp; omega) ?_; intro v' w' h2 h3 h4; have H2 := Aside0.mk h2; have H3 := Aside0.mk h3; clear h2 h3 h4))
      obtain ⟨A4, c4, rfl, _⟩ := q_slice (q_of_own H2.out)
      have HO4 : Aside0 (w'.ownsRow w.heap.size 3 1 (.slice A4 (i + 1) c4) (i + 1) (nums .i64 (keysC (D.c.take (i + 1))))) := ⟨by rw [HT.out]; exact H2.out⟩
      have HF4 : Aside0 (Fr (fun _ => False) w w') := ⟨((HF.out.trans HF1.out (fun k h => .inl h)).alloc _).trans (Fr.of_grownBy H3.out) (fun k h => .inr (q_typed (q_of_own HO.out) k h).1)⟩
      clear H2 H3 hb0
      go_roundg k1
      case measure => omega
      case rel => exact ⟨i + 1, A4, c4, rfl, by go_num, HI3, HO4, HF4⟩
end Go.Proofs.Ytppgbfkhiofjiaa.X

namespace Go.Proofs.Ytppgbfkhiofjiaa.X
open Go.RowKit Go.Proofs.YtppgbfkhiofjiaaW.PrintWords Go.Proofs.YtppgbfkhiofjiaaW.PrintLast Go.Proofs.YtppgbfkhiofjiaaW.PrintMore
set_option linter.unusedVariables false
set_option linter.unusedSimpArgs false

/-- The reference's pending writes in the cells. -/
def encW : List (Int × Value) → List Value
  | [] => []
  | q :: l => .int .i64 q.1 :: q.2 :: encW l
theorem encW_length : ∀ l, (encW l).length = l.length * 2
  | [] => rfl
  | q :: l => by rw [encW, List.length_cons, List.length_cons, encW_length l, List.length_cons]; omega
theorem encW_append : ∀ l m, encW (l ++ m) = encW l ++ encW m
  | [], m => rfl
  | q :: l, m => by rw [List.cons_append, encW, encW, encW_append l m]; rfl
theorem encW_at : ∀ (l : List (Int × Value)) (i : Nat) (q : Int × Value), l[i]? = some q → (encW l)[i * 2]? = some (.int .i64 q.1) ∧ (encW l)[i * 2 + 1]? = some q.2
  | [], i, q, h => by simp at h
  | p :: l, 0, q, h => by
    have : p = q := by simpa using h
    subst this
    exact ⟨rfl, rfl⟩
  | p :: l, i + 1, q, h => by
    have ih := encW_at l i q (by simpa using h)
    rw [show (i + 1) * 2 = i * 2 + 1 + 1 by omega, encW]
    exact ih

/-- What the pending writes hold. -/
def Sec (w : World) (R : Nat → Prop) (lv : Value) (c : List (Int × List Int)) (qs : List (Int × Value)) : Prop :=
  qs.length = c.length ∧ ∀ (i : Nat) p q, c[i]? = some p → qs[i]? = some q → q.1 = p.1 ∧ w.ownsRow 0 5 1 q.2 64 (nums .u8 p.2) ∧ ∀ b, q.2.ownBlock = some b → R b ∧ lv.ownBlock ≠ some b
/-- Block r is the reference's disk; R are the blocks that it leads to. -/
def IsRef (w : World) (R : Nat → Prop) (r : Nat) (D : DS) : Prop :=
  ∃ (lv pv : Value) (lb : List Int) (qs : List (Int × Value)) (n : Nat),
    w.heap[r]? = some (.cells #[lv, pv, .int .i64 D.left, .bool D.down, .int .i64 D.steps] 81 (0, 0)) ∧ R r ∧ (∀ k, lv.ownBlock = some k → R k) ∧ (∀ k, pv.ownBlock = some k → R k) ∧
    D.n = n ∧ 1 ≤ n ∧ n ≤ 4096 ∧ w.ownsRow 0 5 1 lv (n * 64) (nums .u8 lb) ∧ (∀ k : Nat, k < n → (lb.drop (k * 64)).take 64 = D.f k) ∧
    w.ownsRow 0 100 2 pv D.c.length (encW qs) ∧ Sec w R lv D.c qs ∧ (∀ p ∈ D.c, 0 ≤ p.1 ∧ p.1 < D.n ∧ p.2.length = 64) ∧ ∀ k, R k → k < w.heap.size

theorem Sec.move {w w' : World} {R : Nat → Prop} {lv : Value} {c : List (Int × List Int)} {qs : List (Int × Value)} (h : Sec w R lv c qs) (hk : ∀ k, R k → lv.ownBlock ≠ some k → w'.heap[k]? = w.heap[k]?) : Sec w' R lv c qs :=
  ⟨h.1, fun i p q hp hq => by
    obtain ⟨h1, h2, h3⟩ := h.2 i p q hp hq
    exact ⟨h1, ownsRow_kept h2 (fun k e => hk k (h3 k e).1 (h3 k e).2), h3⟩⟩
theorem IsRef.move {w w' : World} {R : Nat → Prop} {r : Nat} {D : DS} (h : IsRef w R r D) (hs : w.heap.size ≤ w'.heap.size) (hk : ∀ k, R k → w'.heap[k]? = w.heap[k]?) : IsRef w' R r D := by
  obtain ⟨lv, pv, lb, qs, n, h1, h2, h3, h4, h5, h6, h7, h8, h9, h10, h11, h12, h13⟩ := h
  exact ⟨lv, pv, lb, qs, n, (hk r h2).trans h1, h2, h3, h4, h5, h6, h7, ownsRow_kept h8 (fun k e => hk k (h3 k e)), h9, ownsRow_kept h10 (fun k e => hk k (h4 k e)), h11.move (fun k hR _ => hk k hR), h12, fun k hR => Nat.lt_of_lt_of_le (h13 k hR) hs⟩
theorem IsRef.lt {w : World} {R : Nat → Prop} {r : Nat} {D : DS} (h : IsRef w R r D) : ∀ k, R k → k < w.heap.size := by
  obtain ⟨lv, pv, lb, qs, n, h1, h2, h3, h4, h5, h6, h7, h8, h9, h10, h11, h12, h13⟩ := h
  exact h13
theorem IsRef.fr {w w' : World} {R B : Nat → Prop} {r : Nat} {D : DS} (h : IsRef w R r D) (hf : Fr B w w') (hd : ∀ k, R k → ¬ B k) : IsRef w' R r D :=
  h.move hf.size (fun k hk => hf.keep k (h.lt k hk) (hd k hk))
theorem own_block_typed {w : World} {base e sz n : Nat} {v : Value} {xs : List Value} (h : w.ownsRow base e sz v n xs) {k : Nat} (hk : v.ownBlock = some k) : ∃ cells, w.heap[k]? = some (.cells cells e (0, 0)) := (q_typed (q_of_own h) k hk).2
theorem own_ne {w : World} {base e sz n : Nat} {v : Value} {xs : List Value} (h : w.ownsRow base e sz v n xs) {k : Nat} {cells : Array Value} {t : TypeId} (hb : w.heap[k]? = some (.cells cells t (0, 0))) (ht : e ≠ t) : v.ownBlock ≠ some k := fun e' => by
  obtain ⟨cs, hc⟩ := own_block_typed h e'
  rw [hb] at hc
  injection hc with hc
  injection hc with _ hc
  exact ht hc.symm
/-- Its cells. -/
theorem IsRef.cells {w : World} {R : Nat → Prop} {r : Nat} {D : DS} (h : IsRef w R r D) : ∃ lv pv, w.cell? ⟨r, 0, none⟩ = some lv ∧ w.cell? ⟨r, 1, none⟩ = some pv ∧ w.cell? ⟨r, 2, none⟩ = some (.int .i64 D.left) ∧ w.cell? ⟨r, 3, none⟩ = some (.bool D.down) ∧
    w.cell? ⟨r, 4, none⟩ = some (.int .i64 D.steps) ∧ (∀ j, w.frozen? ⟨r, j, none⟩ = false) ∧ r < w.heap.size := by
  obtain ⟨lv, pv, lb, qs, n, h1, h2, h3, h4, h5, h6, h7, h8, h9, h10, h11, h12, h13⟩ := h
  refine ⟨lv, pv, ?_, ?_, ?_, ?_, ?_, fun j => frozen_of_row w r j _ 81 h1, h13 r h2⟩ <;> rw [cell_of_row w r _ _ 81 (0, 0) h1] <;> rfl
/-- A plain field is stored. -/
theorem IsRef.put {w : World} {R : Nat → Prop} {r : Nat} {D : DS} (h : IsRef w R r D) (j : Nat) (u : Value) (D' : DS) (hc : D'.c = D.c) (hf : D'.f = D.f) (hn : D'.n = D.n)
    (hcells : ∀ lv pv : Value, (#[lv, pv, .int .i64 D.left, .bool D.down, .int .i64 D.steps] : Array Value).setIfInBounds j u = #[lv, pv, .int .i64 D'.left, .bool D'.down, .int .i64 D'.steps]) :
    IsRef (w.setCell ⟨r, j, none⟩ u) R r D' ∧ Fr R w (w.setCell ⟨r, j, none⟩ u) := by
  have hlt := h.lt
  obtain ⟨lv, pv, lb, qs, n, h1, h2, h3, h4, h5, h6, h7, h8, h9, h10, h11, h12, h13⟩ := h
  have hg := heap_setCell_same w r j _ 81 u h1
  have far : ∀ k, k ≠ r → (w.setCell ⟨r, j, none⟩ u).heap[k]? = w.heap[k]? := fun k hk => heap_setCell_other w _ k _ hk
  refine ⟨⟨lv, pv, lb, qs, n, by rw [hg, hcells], h2, h3, h4, hn.trans h5, h6, h7, ownsRow_kept h8 (fun k e => far k (fun e' => own_ne h8 h1 (by decide) (e' ▸ e))), by rw [hf]; exact h9, by rw [hc]; exact ownsRow_kept h10 (fun k e => far k (fun e' => own_ne h10 h1 (by decide) (e' ▸ e))), ?_, by rw [hc, hn]; exact h12, fun k hk => by have := hlt k hk; simpa [World.setCell] using this⟩, (Fr.refl R w).setCell (.inl h2) u⟩
  rw [hc]
  exact ⟨h11.1, fun i p q hp hq => by
    obtain ⟨a1, a2, a3⟩ := h11.2 i p q hp hq
    exact ⟨a1, ownsRow_kept a2 (fun k e => far k (fun e' => own_ne a2 h1 (by decide) (e' ▸ e))), a3⟩⟩
theorem IsRef.putLeft {w : World} {R : Nat → Prop} {r : Nat} {D : DS} (h : IsRef w R r D) (x : Int) : IsRef (w.setCell ⟨r, 2, none⟩ (.int .i64 x)) R r { D with left := x } ∧ Fr R w (w.setCell ⟨r, 2, none⟩ (.int .i64 x)) := h.put 2 _ _ rfl rfl rfl (fun _ _ => rfl)
theorem IsRef.putDown {w : World} {R : Nat → Prop} {r : Nat} {D : DS} (h : IsRef w R r D) (x : Bool) : IsRef (w.setCell ⟨r, 3, none⟩ (.bool x)) R r { D with down := x } ∧ Fr R w (w.setCell ⟨r, 3, none⟩ (.bool x)) := h.put 3 _ _ rfl rfl rfl (fun _ _ => rfl)
theorem IsRef.putSteps {w : World} {R : Nat → Prop} {r : Nat} {D : DS} (h : IsRef w R r D) (x : Int) : IsRef (w.setCell ⟨r, 4, none⟩ (.int .i64 x)) R r { D with steps := x } ∧ Fr R w (w.setCell ⟨r, 4, none⟩ (.int .i64 x)) := h.put 4 _ _ rfl rfl rfl (fun _ _ => rfl)
/-- No write is pending any more. -/
theorem IsRef.putNil {w : World} {R : Nat → Prop} {r : Nat} {D : DS} (h : IsRef w R r D) : IsRef (w.setCell ⟨r, 1, none⟩ (.slice none 0 0)) R r { D with c := [] } ∧ Fr R w (w.setCell ⟨r, 1, none⟩ (.slice none 0 0)) := by
  have hlt := h.lt
  obtain ⟨lv, pv, lb, qs, n, h1, h2, h3, h4, h5, h6, h7, h8, h9, h10, h11, h12, h13⟩ := h
  have hg := heap_setCell_same w r 1 _ 81 (.slice none 0 0) h1
  have far : ∀ k, k ≠ r → (w.setCell ⟨r, 1, none⟩ (.slice none 0 0)).heap[k]? = w.heap[k]? := fun k hk => heap_setCell_other w _ k _ hk
  exact ⟨⟨lv, .slice none 0 0, lb, [], n, by rw [hg]; rfl, h2, h3, (fun k e => by cases e), h5, h6, h7, ownsRow_kept h8 (fun k e => far k (fun e' => own_ne h8 h1 (by decide) (e' ▸ e))), h9, ⟨rfl, .inl ⟨rfl, rfl⟩⟩, ⟨rfl, fun i p q hp => by simp at hp⟩, (fun p hp => by cases hp), fun k hk => by have := hlt k hk; simpa [World.setCell] using this⟩, (Fr.refl R w).setCell (.inl h2) _⟩
/-- The bytes that last, as a row. -/
theorem splice_row {lb : List Int} {k : Nat} {b : List Int} {n : Nat} (hl : lb.length = n * 64) (hk : k < n) (hb : b.length = 64) (f : Int → List Int) (h : ∀ j : Nat, j < n → (lb.drop (j * 64)).take 64 = f j) :
    ∀ j : Nat, j < n → ((lb.take (k * 64) ++ b ++ lb.drop (k * 64 + 64)).drop (j * 64)).take 64 = upd f k b j := by
  intro j hj
  have l1 : (lb.take (k * 64)).length = k * 64 := by rw [List.length_take]; omega
  unfold upd
  by_cases e : j = k
  · subst e
    rw [if_pos rfl, List.append_assoc, List.drop_append_of_le_length (by omega), List.drop_of_length_le (by omega), List.nil_append, List.take_append_of_le_length (by omega), List.take_of_length_le (by omega)]
  · rw [if_neg (by omega), ← h j hj]
    apply List.ext_getElem?
    intro i
    rw [List.getElem?_take, List.getElem?_take]
    by_cases hi : i < 64
    · rw [if_pos hi, if_pos hi, List.getElem?_drop, List.getElem?_drop]
      rcases Nat.lt_or_gt_of_ne e with h1 | h1
      · rw [List.append_assoc, List.getElem?_append_left (by omega), List.getElem?_take, if_pos (by omega)]
      · rw [List.getElem?_append_right (by rw [List.length_append]; omega), List.length_append, l1, hb, List.getElem?_drop]
        congr 1
        omega
    · rw [if_neg hi, if_neg hi]
end Go.Proofs.Ytppgbfkhiofjiaa.X

namespace Go.Proofs.Ytppgbfkhiofjiaa.X
open Go.RowKit Go.Proofs.YtppgbfkhiofjiaaW.PrintWords Go.Proofs.YtppgbfkhiofjiaaW.PrintLast Go.Proofs.YtppgbfkhiofjiaaW.PrintMore
attribute [local go_sem] max2_int min2_int max_two min_two
set_option linter.unusedVariables false
set_option linter.unusedSimpArgs false

set_option maxHeartbeats 1000000 in
theorem fails_calls (r : Nat) (R : Nat → Prop) (D : DS) (w : World) (h : IsRef w R r D) (hs : -1 ≤ D.steps ∧ D.steps < 9223372036854775807) (hl : D.left ≤ 9223372036854775807) :
    Calls Try.prog 73 #[.pointer (some ⟨r, 0, none⟩)] w fun e w' => e = .returned (.bool (!(stepD D).1)) ∧ IsRef w' R r (stepD D).2 ∧ Fr R w w' := by
  obtain ⟨lv, pv, c0, c1, c2, c3, c4, cf, hlt⟩ := h.cells
  obtain ⟨dn, df, dc, dl, dd, ds, du⟩ := D
  dsimp only at c2 c3 c4 hs hl
  have H := Aside0.mk h
  have f2 := cf 2
  have f3 := cf 3
  have f4 := cf 4
  clear c0 c1 cf h
  obtain ⟨hs1, hs2⟩ := hs
  by_cases h0 : dl = 0
  · subst h0
    go_enter Try.func73, Try.ntmps73
    go_wp2
    go_ret
    have p := H.out.putDown true
    exact ⟨rfl, p.1, p.2⟩
  · by_cases h1 : 0 < dl
    · have R : Aside0 (stepD ⟨dn, df, dc, dl, dd, ds, du⟩ = (true, ⟨dn, df, dc, dl - 1, dd, ds + 1, du⟩)) := ⟨by simp [stepD, h0, h1]⟩
      go_enter Try.func73, Try.ntmps73
      go_wp2
      go_ret
      have p := H.out.putLeft (dl - 1)
      have q := p.1.putSteps (ds + 1)
      rw [R.out]
      exact ⟨rfl, q.1, p.2.trans q.2 (fun _ h => .inl h)⟩
    · have R : Aside0 (stepD ⟨dn, df, dc, dl, dd, ds, du⟩ = (true, ⟨dn, df, dc, dl, dd, ds + 1, du⟩)) := ⟨by simp [stepD, h0, h1]⟩
      go_enter Try.func73, Try.ntmps73
      go_wp2
      go_ret
      have q := H.out.putSteps (ds + 1)
      rw [R.out]
      exact ⟨rfl, q.1, q.2⟩

set_option maxHeartbeats 1000000 in
theorem arms_calls (r : Nat) (R : Nat → Prop) (D : DS) (n : Int) (w : World) (h : IsRef w R r D) :
    Calls Try.prog 52 #[.pointer (some ⟨r, 0, none⟩), .int .i64 n] w fun e w' => e = .returned (.tuple #[]) ∧ IsRef w' R r { D with left := if n < -1 then -1 else n } ∧ Fr R w w' := by
  obtain ⟨lv, pv, c0, c1, c2, c3, c4, cf, hlt⟩ := h.cells
  have H := Aside0.mk h
  have f2 := cf 2
  clear c0 c1 c3 c4 cf h
  rcases Int.lt_trichotomy n (-1) with h1 | rfl | h1
  · go_enter Try.func52, Try.ntmps52
    go_wp2
    go_end0
    have p := H.out.putLeft (-1)
    exact ⟨rfl, p.1, p.2⟩
  · go_enter Try.func52, Try.ntmps52
    go_wp2
    all_goals
      go_end0
      have p := H.out.putLeft (-1)
      exact ⟨rfl, p.1, p.2⟩
  · have h2 : ¬ n < -1 := by omega
    have h3 : -1 ≤ n := by omega
    have h4 : ¬ n ≤ -1 := by omega
    go_enter Try.func52, Try.ntmps52
    go_wp2
    go_end0
    have p := H.out.putLeft n
    exact ⟨rfl, p.1, p.2⟩

set_option maxHeartbeats 1000000 in
theorem rsectors_calls (r : Nat) (R : Nat → Prop) (D : DS) (w : World) (h : IsRef w R r D) :
    Calls Try.prog 25 #[.pointer (some ⟨r, 0, none⟩)] w fun e w' => e = .returned (.int .i64 D.n) ∧ Drawn0 w w' := by
  obtain ⟨lv, pv, c0, c1, c2, c3, c4, cf, hlt⟩ := h.cells
  obtain ⟨lv', pv', lb, qs, n, h1, h2, h3, h4, h5, h6, h7, h8, h9, h10, h11, h12, h13⟩ := h
  obtain ⟨A, c, hv, _⟩ := q_slice (q_of_own h8)
  rw [cell_of_row w r _ _ 81 (0, 0) h1] at c0
  have e : lv' = lv := by simpa using c0
  subst e
  have c0 : w.cell? ⟨r, 0, none⟩ = some (.slice A (n * 64) c) := by
    rw [cell_of_row w r _ _ 81 (0, 0) h1, ← hv]
    rfl
  rw [h5]
  clear c1 c2 c3 c4 cf h1 h2 h3 h4 h5 h8 h9 h10 h11 h12 h13 hv
  go_enter Try.func25, Try.ntmps25
  go_wp2
  go_ret
  exact ⟨rfl, Drawn0.refl _⟩

set_option maxHeartbeats 1000000 in
theorem sectors_calls (g : Nat) (B : Nat → Prop) (D : DS) (w : World) (h : IsDisk w B g D) :
    Calls Try.prog 53 #[.pointer (some ⟨g, 0, none⟩)] w fun e w' => e = .returned (.int .i64 D.n) ∧ Drawn0 w w' := by
  obtain ⟨m, cv, c0, c1, c2, c3, c4, c5, cf, hlt, _, _, _, _, _⟩ := h.cells
  clear c1 c2 c3 c4 c5 cf h
  go_enter Try.func53, Try.ntmps53
  go_wp2
  go_ret
  exact ⟨rfl, Drawn0.refl _⟩
set_option maxHeartbeats 1000000 in
theorem down_calls (g : Nat) (B : Nat → Prop) (D : DS) (w : World) (h : IsDisk w B g D) :
    Calls Try.prog 39 #[.pointer (some ⟨g, 0, none⟩)] w fun e w' => e = .returned (.bool D.down) ∧ Drawn0 w w' := by
  obtain ⟨m, cv, c0, c1, c2, c3, c4, c5, cf, hlt, _, _, _, _, _⟩ := h.cells
  clear c0 c1 c2 c3 c5 cf h
  go_enter Try.func39, Try.ntmps39
  go_wp2
  go_ret
  exact ⟨rfl, Drawn0.refl _⟩
set_option maxHeartbeats 1000000 in
theorem steps_calls (g : Nat) (B : Nat → Prop) (D : DS) (w : World) (h : IsDisk w B g D) :
    Calls Try.prog 38 #[.pointer (some ⟨g, 0, none⟩)] w fun e w' => e = .returned (.int .i64 D.steps) ∧ Drawn0 w w' := by
  obtain ⟨m, cv, c0, c1, c2, c3, c4, c5, cf, hlt, _, _, _, _, _⟩ := h.cells
  clear c0 c1 c2 c3 c4 cf h
  go_enter Try.func38, Try.ntmps38
  go_wp2
  go_ret
  exact ⟨rfl, Drawn0.refl _⟩

theorem zeros_rows (n k : Nat) (hk : k < n) : ((List.replicate (n * 64) (0 : Int)).drop (k * 64)).take 64 = zeros64 := by
  rw [List.drop_replicate, List.take_replicate]
  unfold zeros64
  congr 1
  omega
theorem newRef_is (n : Nat) (h1 : 1 ≤ n) (h2 : n ≤ 4096) (w : World) :
    IsRef ((w.alloc (.cells (madeCells #[.int .u8 0] (n * 64)) 5)).alloc (.cells #[.slice (some ⟨w.heap.size, 0, none⟩) (n * 64) (n * 64), .slice none 0 0, .int .i64 (-1), .bool false, .int .i64 0] 81)) (fun k => w.heap.size ≤ k ∧ k < w.heap.size + 2) (w.heap.size + 1) (newD n) := by
  have hm : ((w.alloc (.cells (madeCells #[.int .u8 0] (n * 64)) 5)).alloc (.cells #[.slice (some ⟨w.heap.size, 0, none⟩) (n * 64) (n * 64), .slice none 0 0, .int .i64 (-1), .bool false, .int .i64 0] 81)).heap[w.heap.size]? = some (.cells (madeCells #[.int .u8 0] (n * 64)) 5 (0, 0)) := heap_alloc2_old _ _ _
  refine ⟨.slice (some ⟨w.heap.size, 0, none⟩) (n * 64) (n * 64), .slice none 0 0, List.replicate (n * 64) 0, [], n, heap_alloc2_new _ _ _, ⟨by omega, by omega⟩, fun k e => ?_, (fun k e => by cases e), rfl, h1, h2, ⟨by simp [nums], .inr ⟨w.heap.size, n * 64, _, rfl, Nat.zero_le _, hm, Nat.le_refl _, by unfold maxLen; omega, by rw [size_madeCells, Nat.mul_one], ?_⟩⟩, fun k hk => zeros_rows n k hk, ⟨rfl, .inl ⟨rfl, rfl⟩⟩, ⟨rfl, fun i p q hp => by simp [newD] at hp⟩, (fun p hp => by cases hp), fun k hk => by simp; omega⟩
  · have e2 : w.heap.size = k := by simpa [Value.ownBlock] using e
    exact ⟨by omega, by omega⟩
  · rw [toList_madeCells_one, Nat.mul_one, List.take_of_length_le (by simp)]
    simp [nums]
set_option maxHeartbeats 1000000 in
theorem rnew_calls (n : Nat) (w : World) (h1 : 1 ≤ n) (h2 : n ≤ 4096) :
    Calls Try.prog 21 #[.int .i64 (n : Int)] w fun e w' => ∃ r, e = .returned (.tuple #[.pointer (some ⟨r, 0, none⟩), .int .i64 0]) ∧ (∃ R, IsRef w' R r (newD n) ∧ ∀ k, R k → w.heap.size ≤ k) ∧ Below w.heap.size w w' := by
  have hmk : ∀ w, (Instr.makeSlice 22 (.int .i64 ((n : Int) * 64)) (.int .i64 ((n : Int) * 64))).run Try.prog w = .ok (.slice (some ⟨w.heap.size, 0, none⟩) (n * 64) (n * 64)) (w.alloc (.cells (madeCells #[.int .u8 0] (n * 64)) 5)) := fun w => by
    have h := run_make_row' (P := Try.prog) 22 5 (.int .u8 0) 1 Try.underlying22 info5 rfl .i64 .i64 (n * 64) (by omega) (by omega) w
    rwa [Int.natCast_mul] at h
  have i1 : (1 : Int) ≤ (n : Int) := by omega
  have i2 : (n : Int) ≤ 4096 := by omega
  go_enter Try.func21, Try.ntmps21
  go_wp2
  go_ret2
  exact ⟨w.heap.size + 1, rfl, ⟨_, newRef_is n h1 h2 w, fun k hk => hk.1⟩, ((Below.refl _ _).alloc (Nat.le_refl _) _).alloc (by simp) _⟩
theorem rnew_bad (n : Int) (w : World) (h1 : ¬ (1 ≤ n ∧ n ≤ 4096)) :
    Calls Try.prog 21 #[.int .i64 n] w fun e w' => e = .returned (.tuple #[.pointer none, .int .i64 2]) ∧ Below w.heap.size w w' := by
  by_cases h2 : 1 ≤ n
  · have h3 : 4096 < n := by omega
    go_enter Try.func21, Try.ntmps21
    go_wp2
    go_ret2
    exact ⟨rfl, Below.refl _ _⟩
  · have h3 : n < 1 := by omega
    go_enter Try.func21, Try.ntmps21
    go_wp2
    go_ret2
    exact ⟨rfl, Below.refl _ _⟩
end Go.Proofs.Ytppgbfkhiofjiaa.X

namespace Go.Proofs.Ytppgbfkhiofjiaa.X
open Go.RowKit Go.Proofs.YtppgbfkhiofjiaaW.PrintWords Go.Proofs.YtppgbfkhiofjiaaW.PrintLast Go.Proofs.YtppgbfkhiofjiaaW.PrintMore
set_option linter.unusedVariables false
set_option linter.unusedSimpArgs false

/-- The reference's disk, its rows told. -/
def RefAt (w : World) (R : Nat → Prop) (r : Nat) (D : DS) (lv pv : Value) (qs : List (Int × Value)) (n : Nat) : Prop :=
  ∃ (lb : List Int),
    w.heap[r]? = some (.cells #[lv, pv, .int .i64 D.left, .bool D.down, .int .i64 D.steps] 81 (0, 0)) ∧ R r ∧ (∀ k, lv.ownBlock = some k → R k) ∧ (∀ k, pv.ownBlock = some k → R k) ∧
    D.n = n ∧ 1 ≤ n ∧ n ≤ 4096 ∧ w.ownsRow 0 5 1 lv (n * 64) (nums .u8 lb) ∧ (∀ k : Nat, k < n → (lb.drop (k * 64)).take 64 = D.f k) ∧
    w.ownsRow 0 100 2 pv D.c.length (encW qs) ∧ Sec w R lv D.c qs ∧ (∀ p ∈ D.c, 0 ≤ p.1 ∧ p.1 < D.n ∧ p.2.length = 64) ∧ ∀ k, R k → k < w.heap.size
theorem IsRef.at {w : World} {R : Nat → Prop} {r : Nat} {D : DS} (h : IsRef w R r D) : ∃ lv pv qs n, RefAt w R r D lv pv qs n := by
  obtain ⟨lv, pv, lb, qs, n, h1⟩ := h
  exact ⟨lv, pv, qs, n, lb, h1⟩
theorem RefAt.is {w : World} {R : Nat → Prop} {r : Nat} {D : DS} {lv pv : Value} {qs : List (Int × Value)} {n : Nat} (h : RefAt w R r D lv pv qs n) : IsRef w R r D := by
  obtain ⟨lb, h1⟩ := h
  exact ⟨lv, pv, lb, qs, n, h1⟩
theorem RefAt.move {w w' : World} {R : Nat → Prop} {r : Nat} {D : DS} {lv pv : Value} {qs : List (Int × Value)} {n : Nat} (h : RefAt w R r D lv pv qs n) (hs : w.heap.size ≤ w'.heap.size) (hk : ∀ k, R k → w'.heap[k]? = w.heap[k]?) : RefAt w' R r D lv pv qs n := by
  obtain ⟨lb, h1, h2, h3, h4, h5, h6, h7, h8, h9, h10, h11, h12, h13⟩ := h
  exact ⟨lb, (hk r h2).trans h1, h2, h3, h4, h5, h6, h7, ownsRow_kept h8 (fun k e => hk k (h3 k e)), h9, ownsRow_kept h10 (fun k e => hk k (h4 k e)), h11.move (fun k hR _ => hk k hR), h12, fun k hR => Nat.lt_of_lt_of_le (h13 k hR) hs⟩
theorem RefAt.fr {w w' : World} {R B : Nat → Prop} {r : Nat} {D : DS} {lv pv : Value} {qs : List (Int × Value)} {n : Nat} (h : RefAt w R r D lv pv qs n) (hf : Fr B w w') (hd : ∀ k, R k → ¬ B k) : RefAt w' R r D lv pv qs n :=
  h.move hf.size (fun k hk => hf.keep k (h.is.lt k hk) (hd k hk))

/-- A copy of cells at a step of a region that draws its order. -/
theorem step_copy_cells {P : Program} {ops : Array Oper} {o : Oper} {a : Act} {w : World} {K : Act → World → Prop} {Q : Exit → Act → World → Prop} {E : Prop} (hgd : o.guard = none) (d s : Operand) (dT sT : TypeId)
    (ho : o.op = .call { callee := .builtin .copy, args := #[d, s], argTypes := #[dT, sT] }) (elem : TypeId) (hu : P.underlying dT = some (.slice elem)) (hsz : (P.info? elem).map (·.size) = some 1)
    (b off dLen dCap : Nat) (ad : Addr) (sLen sCap : Nat) (hd : a.eval d = .slice (some ⟨b, off, none⟩) dLen dCap) (hs : a.eval s = .slice (some ad) sLen sCap)
    (cs : List Value) (hn : cs.length = Nat.min sLen dLen) (hsrc : ∀ j v, cs[j]? = some v → w.cell? (ad.add j) = some v) (hth : w.there b off cs.length) (h1 : ∀ v ∈ cs, v.oneCell' = true)
    (h : K (a.put o.dst (goInt cs.length)) (w.setCells b off cs)) :
    if Region.wanted o (yielded ops a.tmps) = true then Oper.wp P o a w K Q else E := by
  have hw : Region.wanted o (yielded ops a.tmps) = true := by simp [Region.wanted, hgd]
  rw [if_pos hw]
  have hrun := run_copy_cells (P := P) w dT sT o.type elem b off dLen dCap ad sLen sCap cs hu hsz hn hsrc (fun j hj => (hth j hj).1) (fun j hj => (hth j hj).2) h1
  unfold Oper.wp
  simp [execOp, ho, resolve, invoke, builtin, hd, hs, hrun, Result.andThen]
  exact h
theorem info5s : (Try.prog.info? 5).map (·.size) = some 1 := by kernel_rfl
theorem info5' : ∃ i, Try.prog.info? 5 = some i ∧ i.size = 1 := by
  have h := info5s
  cases hq : Try.prog.info? 5 with
  | none => rw [hq] at h; cases h
  | some i => exact ⟨i, rfl, by rw [hq] at h; simpa using h⟩

/-- What lasts is laid over. -/
theorem RefAt.lay {w : World} {R : Nat → Prop} {r : Nat} {D : DS} {pv : Value} {qs : List (Int × Value)} {n gb cap : Nat} (h : RefAt w R r D (.slice (some ⟨gb, 0, none⟩) (n * 64) cap) pv qs n) {k : Nat} (hk : k < n) {b : List Int} (hb : b.length = 64) :
    RefAt (w.setCells gb (k * 64) (nums .u8 b)) R r { D with f := upd D.f k b } (.slice (some ⟨gb, 0, none⟩) (n * 64) cap) pv qs n ∧ Fr R w (w.setCells gb (k * 64) (nums .u8 b)) := by
  have hlt := h.is.lt
  obtain ⟨lb, h1, h2, h3, h4, h5, h6, h7, h8, h9, h10, h11, h12, h13⟩ := h
  have hgb : R gb := h3 gb rfl
  obtain ⟨a1, a2, a3, a4⟩ := setCells_same gb (nums .u8 b) (k * 64) w
  have far : ∀ j, j ≠ gb → (w.setCells gb (k * 64) (nums .u8 b)).heap[j]? = w.heap[j]? := fun j hj => setCells_far (nums .u8 b) (k * 64) j hj
  have hrg : r ≠ gb := fun e => own_ne h8 h1 (by decide) (by rw [e]; rfl)
  have hll : lb.length = n * 64 := by have := h8.1; simpa [nums] using this
  have hf : Fr R w (w.setCells gb (k * 64) (nums .u8 b)) := ⟨a1, a2, a3, Nat.le_of_eq a4.symm, fun j hj hn => far j (fun e => hn (e ▸ hgb))⟩
  refine ⟨⟨lb.take (k * 64) ++ b ++ lb.drop (k * 64 + 64), (far r hrg).trans h1, h2, h3, h4, h5, h6, h7, ?_, splice_row hll hk hb D.f h9, ownsRow_kept h10 (fun j e => far j (fun e' => ?_)), ⟨h11.1, fun i p q hp hq => ?_⟩, h12, fun j hj => by rw [a4]; exact hlt j hj⟩, hf⟩
  · rcases h8.2 with ⟨e, _⟩ | ⟨g2, cap2, cur, e, b0, b1, b2, b3, b4, b5⟩
    · cases e
    · injection e with e1 e2 e3
      injection e1 with e1
      injection e1 with e1
      subst e1
      subst e3
      have hcl : cur.size = cap := by rw [b4]; omega
      obtain ⟨cur', c1, c2, c3⟩ := setCells_row (nums .u8 b) (k * 64) w cur b1 (by rw [nums_length, hb, hcl]; omega)
      refine ⟨by simp [nums, hll, hb]; omega, .inr ⟨gb, cap, cur', rfl, b0, c1, b2, b3, by rw [c2, b4], ?_⟩⟩
      have b5' : cur.toList.take (n * 64) = nums .u8 lb := by simpa using b5
      have ct : (cur.toList.take (k * 64)) = nums .u8 (lb.take (k * 64)) := by
        unfold nums at b5' ⊢
        rw [List.map_take, ← b5', List.take_take, Nat.min_eq_left (by omega)]
      have cd : ((cur.toList.drop (k * 64 + 64)).take (n * 64 - (k * 64 + 64))) = nums .u8 (lb.drop (k * 64 + 64)) := by
        unfold nums at b5' ⊢
        rw [List.map_drop, ← b5', List.drop_take]
      rw [c3, nums_length, hb, Nat.mul_one]
      have l1 : (cur.toList.take (k * 64)).length = k * 64 := by rw [List.length_take, Array.length_toList]; omega
      have l2 : (nums .u8 b).length = 64 := by rw [nums_length, hb]
      rw [List.take_append, List.take_of_length_le (by rw [List.length_append, l1, l2]; omega), List.length_append, l1, l2, cd, ct]
      unfold nums
      simp
  · have hb2 := own_block_typed h8 (k := gb) rfl
    obtain ⟨cs, hc⟩ := hb2
    exact own_ne h10 hc (by decide) (e' ▸ e)
  · obtain ⟨q1, q2, q3⟩ := h11.2 i p q hp hq
    exact ⟨q1, ownsRow_kept q2 (fun j e => far j (fun e' => (q3 j e).2 (by rw [e']; rfl))), q3⟩

set_option maxHeartbeats 4000000 in
set_option maxRecDepth 100000 in
theorem lasts_calls' (r : Nat) (R : Nat → Prop) (D : DS) (lv pv : Value) (qs : List (Int × Value)) (n : Nat) (w : World) (h : RefAt w R r D lv pv qs n) (i : Nat) (p : Int × List Int) (q : Int × Value) (hp : D.c[i]? = some p) (hq : qs[i]? = some q) :
    Calls Try.prog 54 #[.pointer (some ⟨r, 0, none⟩), .agg #[.int .i64 q.1, q.2]] w fun e w' => e = .returned (.tuple #[]) ∧ RefAt w' R r { D with f := upd D.f p.1 p.2 } lv pv qs n ∧ Fr R w w' := by
  have H := Aside0.mk h
  obtain ⟨lb, h1, h2, h3, h4, h5, h6, h7, h8, h9, h10, h11, h12, h13⟩ := h
  obtain ⟨g1, g2, g3⟩ := h11.2 i p q hp hq
  obtain ⟨k0, k1, k2⟩ := h12 p (List.mem_of_getElem? hp)
  obtain ⟨pn, pb⟩ := p
  obtain ⟨qn, qv⟩ := q
  dsimp only at g1 g2 g3 k0 k1 k2
  subst g1
  obtain ⟨k, rfl⟩ := Int.eq_ofNat_of_zero_le k0
  have hk : k < n := by omega
  obtain ⟨gb, cap, rfl⟩ : ∃ gb cap, lv = .slice (some ⟨gb, 0, none⟩) (n * 64) cap := by
    rcases h8.2 with ⟨_, hz⟩ | ⟨gb, cap, cur, e, _⟩
    · omega
    · exact ⟨gb, cap, e⟩
  obtain ⟨qb, qc, rfl⟩ : ∃ qb qc, qv = .slice (some ⟨qb, 0, none⟩) 64 qc := by
    rcases g2.2 with ⟨_, hz⟩ | ⟨qb, qc, cur, e, _⟩
    · omega
    · exact ⟨qb, qc, e⟩
  have hcap : n * 64 ≤ cap := by
    obtain ⟨A, c, e, hc⟩ := q_slice (q_of_own h8)
    injection e with e1 e2 e3
    omega
  have c0 : w.cell? ⟨r, 0, none⟩ = some (.slice (some ⟨gb, 0, none⟩) (n * 64) cap) := by
    rw [cell_of_row w r _ _ 81 (0, 0) h1]
    rfl
  have hrl : r < w.heap.size := h13 r h2
  have hqcell := g2.cells (g := qb) rfl
  have hqlt : qb < w.heap.size := h13 qb (g3 qb rfl).1
  have HSRC : Aside0 (∀ (W : World), W.heap = (w.alloc (.cells #[.int .i64 (k : Int), .slice (some ⟨qb, 0, none⟩) 64 qc] 100)).heap → ∀ j v, (nums .u8 pb)[j]? = some v → W.cell? ((⟨qb, 0, none⟩ : Addr).add j) = some v) := ⟨fun W hW j v hv => by
    have := hqcell j v hv
    rw [← this]
    exact World.cell?_of_block (by rw [Addr.add_mid, hW]; exact Below.heap_alloc _ _ _ hqlt)⟩
  have HRA : Aside0 (∀ (W : World), W.heap = (w.alloc (.cells #[.int .i64 (k : Int), .slice (some ⟨qb, 0, none⟩) 64 qc] 100)).heap → RefAt W R r D (.slice (some ⟨gb, 0, none⟩) (n * 64) cap) pv qs n) := ⟨fun W hW => H.out.move (by rw [hW]; simp) (fun j hj => by rw [hW]; exact Below.heap_alloc _ _ _ (h13 j hj))⟩
  have HTH : Aside0 (∀ (W : World), W.heap = (w.alloc (.cells #[.int .i64 (k : Int), .slice (some ⟨qb, 0, none⟩) 64 qc] 100)).heap → W.there gb (k * 64) (nums .u8 pb).length) := ⟨fun W hW j hj => by
    obtain ⟨lb', a1, a2, a3, a4, a5, a6, a7, a8, _⟩ := HRA.out W hW
    rcases a8.2 with ⟨e, _⟩ | ⟨g2, cap2, cur, e, b0, b1, b2, b3, b4, b5⟩
    · cases e
    · injection e with e1 e2 e3
      injection e1 with e1
      injection e1 with e1
      subst e1
      rw [nums_length, k2] at hj
      exact ⟨by rw [cell_of_row W gb _ cur 5 (0, 0) b1, Array.getElem?_eq_getElem (by rw [b4]; omega)]; rfl, frozen_of_row W gb _ cur 5 b1⟩⟩
  have hone : ∀ v ∈ nums .u8 pb, v.oneCell' = true := fun v hv => by
    obtain ⟨x, _, rfl⟩ := List.mem_map.1 hv
    rfl
  have HMIN : Aside0 ((nums .u8 pb).length = Nat.min 64 (n * 64 - k * 64)) := ⟨by rw [nums_length, k2]; exact (Nat.min_eq_left (by omega)).symm⟩
  have hk0 : (0 : Int) ≤ (k : Int) * 64 := by omega
  have hk1 : (k : Int) * 64 ≤ ((n * 64 : Nat) : Int) := by omega
  have K2 := Aside0.mk k2
  have H13 := Aside0.mk h13
  have hne : ¬ cap = k * 64 := by omega
  have hkn : k ≤ n := by omega
  have hle : (k : Int) * 64 ≤ (n : Int) * 64 := by omega
  have htn : ((k : Int) * 64).toNat = k * 64 := by omega
  clear h1 h2 h3 h4 h5 h8 h9 h10 h11 h12 h13 g2 g3 hqcell k2 hp hq
  have hwr : IntKind.i64.wrap ((k : Int) * 64) = (k : Int) * 64 := IntWalk.i64_in _ (by omega)
  go_enter Try.func54, Try.ntmps54
  go_wp2_with fail
  go_region_law (refine step_copy_cells rfl (.tmp 11) (.tmp 13) 22 22 rfl 5 Try.underlying22 info5s gb (k * 64) (n * 64 - k * 64) (cap - k * 64) ⟨qb, 0, none⟩ 64 qc (by rfl) (by rfl) (nums .u8 pb) HMIN.out (HSRC.out _ (by rfl)) (HTH.out _ (by rfl)) hone ?_)
  all_goals clear hwr
  all_goals (
    have L := (HRA.out (w.alloc (.cells #[.int .i64 (k : Int), .slice (some ⟨qb, 0, none⟩) 64 qc] 100)).drew rfl).lay hk K2.out
    go_end0
    exact ⟨rfl, L.1, (((Fr.refl R w).alloc _).drew).trans L.2 (fun k h => .inl h)⟩)
end Go.Proofs.Ytppgbfkhiofjiaa.X

namespace Go.Proofs.Ytppgbfkhiofjiaa.X
open Go.RowKit Go.Proofs.YtppgbfkhiofjiaaW.PrintWords Go.Proofs.YtppgbfkhiofjiaaW.PrintLast Go.Proofs.YtppgbfkhiofjiaaW.PrintMore
set_option linter.unusedVariables false
set_option linter.unusedSimpArgs false

/-- One pending write in the cells. -/
theorem RefAt.pend {w : World} {R : Nat → Prop} {r : Nat} {D : DS} {lv pv : Value} {qs : List (Int × Value)} {n : Nat} (h : RefAt w R r D lv pv qs n) {i : Nat} (hi : i < D.c.length) :
    ∃ p q gb cap, D.c[i]? = some p ∧ qs[i]? = some q ∧ q.1 = p.1 ∧ pv = .slice (some ⟨gb, 0, none⟩) D.c.length cap ∧ w.cell? ⟨gb, i * 2, none⟩ = some (.int .i64 q.1) ∧ w.cell? ⟨gb, i * 2 + 1, none⟩ = some q.2 := by
  obtain ⟨lb, h1, h2, h3, h4, h5, h6, h7, h8, h9, h10, h11, h12, h13⟩ := h
  obtain ⟨p, hp⟩ : ∃ p, D.c[i]? = some p := ⟨_, List.getElem?_eq_getElem hi⟩
  obtain ⟨q, hq⟩ : ∃ q, qs[i]? = some q := ⟨_, List.getElem?_eq_getElem (by rw [h11.1]; exact hi)⟩
  rcases h10.2 with ⟨_, hz⟩ | ⟨gb, cap, cur, e, _⟩
  · omega
  · have hc := h10.cells (g := gb) (by rw [e]; rfl)
    obtain ⟨a1, a2⟩ := encW_at qs i q hq
    refine ⟨p, q, gb, cap, hp, hq, (h11.2 i p q hp hq).1, e, ?_, ?_⟩
    · have := hc _ _ a1
      rwa [Addr.add_mid, Nat.zero_add] at this
    · have := hc _ _ a2
      rwa [Addr.add_mid, Nat.zero_add] at this
theorem RefAt.pv {w : World} {R : Nat → Prop} {r : Nat} {D : DS} {lv pv : Value} {qs : List (Int × Value)} {n : Nat} (h : RefAt w R r D lv pv qs n) : (∃ A cap, pv = .slice A D.c.length cap) ∧ w.cell? ⟨r, 1, none⟩ = some pv ∧ w.frozen? ⟨r, 1, none⟩ = false ∧ r < w.heap.size := by
  have hlt := h.is.lt
  obtain ⟨lb, h1, h2, h3, h4, h5, h6, h7, h8, h9, h10, h11, h12, h13⟩ := h
  obtain ⟨A, c, e, _⟩ := q_slice (q_of_own h10)
  exact ⟨⟨A, c, e⟩, by rw [cell_of_row w r _ _ 81 (0, 0) h1]; rfl, frozen_of_row w r _ _ 81 h1, hlt r h2⟩
theorem settleF_false (kp : Nat → Bool) : ∀ (c : List (Int × List Int)) (i : Nat) (f : Int → List Int), (∀ j, i ≤ j → kp j = false) → settleF kp i c f = f
  | [], i, f, _ => rfl
  | p :: c, i, f, h => by
    rw [settleF, if_neg (by rw [h i (Nat.le_refl _)]; decide), settleF_false kp c (i + 1) f (fun j hj => h j (by omega))]

set_option maxHeartbeats 4000000 in
set_option maxRecDepth 100000 in
theorem rflush_calls (r : Nat) (R : Nat → Prop) (D : DS) (w : World) (h : IsRef w R r D) (hs : -1 ≤ D.steps ∧ D.steps < 9223372036854775807) (hl : D.left ≤ 9223372036854775807) (hc : D.c.length ≤ 1000000) :
    Calls Try.prog 51 #[.pointer (some ⟨r, 0, none⟩)] w fun e w' => e = .returned (.int .i64 (flushD D).1) ∧ IsRef w' R r (flushD D).2 ∧ Fr R w w' := by
  have H := Aside0.mk h
  obtain ⟨lv, pv, c0, c1, c2, c3, c4, cf, hlt⟩ := h.cells
  obtain ⟨dd, hdd⟩ : ∃ dd, D.down = dd := ⟨_, rfl⟩
  have HDD := Aside0.mk hdd
  rw [hdd] at c3
  have ST := Aside0.mk (fails_calls r R D w h hs hl)
  clear c0 c1 c2 c4 cf h hdd hs hl
  cases dd with
  | true =>
    have RR : Aside0 (flushD D = (230, D)) := ⟨by unfold flushD; rw [if_pos HDD.out]⟩
    go_enter Try.func51, Try.ntmps51
    go_wp2
    go_ret
    rw [RR.out]
    exact ⟨rfl, H.out, Fr.refl _ _⟩
  | false =>
    obtain ⟨ok, hok⟩ : ∃ ok, (stepD D).1 = ok := ⟨_, rfl⟩
    have RR : Aside0 (flushD D = if ok = true then (0, settleD (fun _ => true) (stepD D).2) else (230, (stepD D).2)) := ⟨by unfold flushD; rw [HDD.out, hok]; rfl⟩
    rw [hok] at ST
    have hc2 : (stepD D).2.c.length ≤ 1000000 := by rw [(stepD_c D).1]; exact hc
    generalize (stepD D).2 = D2 at *
    clear hok hc
    cases ok with
    | false =>
      go_enter Try.func51, Try.ntmps51
      go_wp2_with fail
      refine ST.out.mono ?_
      rintro e w2 ⟨rfl, hd2, hf2⟩
      have HD2 := Aside0.mk hd2
      have HF2 := Aside0.mk hf2
      clear hd2 hf2
      go_wp2
      go_ret
      rw [RR.out]
      exact ⟨rfl, HD2.out, HF2.out⟩
    | true =>
      go_enter Try.func51, Try.ntmps51
      go_wp2_with fail
      refine ST.out.mono ?_
      rintro e w2 ⟨rfl, hd2, hf2⟩
      obtain ⟨lv2, pv2, qs, n, hat⟩ := hd2.at
      obtain ⟨⟨A, cap, hpv⟩, _⟩ := hat.pv
      obtain ⟨N, hN⟩ : ∃ N, D2.c.length = N := ⟨_, rfl⟩
      have HN := Aside0.mk hN
      rw [hN] at hpv
      subst hpv
      have HAT := Aside0.mk hat
      have HF2 := Aside0.mk hf2
      rw [hN] at hc2
      clear hd2 hf2 hat hN
      go_wp2_with fail
      go_loopg [3] N (fun kq v3 w' => ∃ (i : Nat) (f : Int → List Int), v3 = .int .i64 (i : Int) ∧ Aside0 (i + kq = N) ∧ Aside0 (settleF (fun _ => true) i (D2.c.drop i) f = settleF (fun _ => true) 0 D2.c D2.f) ∧ Aside0 (RefAt w' R r { D2 with f := f } lv2 (.slice A N cap) qs n) ∧ Aside0 (Fr R w w'))
      case atStart => exact ⟨0, D2.f, rfl, ⟨by omega⟩, ⟨by rw [List.drop_zero]⟩, HAT, HF2⟩
      case round =>
        clear HAT HF2
        obtain ⟨i, f, rfl, HI, HS, HAT, HF2⟩ := hrel
        obtain ⟨_, c1, f1, hlt2⟩ := HAT.out.pv
        cases gk with
        | zero =>
          have hi : i = N := by have := HI.out; omega
          subst hi
          have P := HAT.out.is.putNil
          have HP := Aside0.mk P
          clear P
          go_wp2_with fail
          go_ret
          rw [RR.out]
          have hs := HS.out
          rw [List.drop_of_length_le (by rw [HN.out]; exact Nat.le_refl _)] at hs
          have hs : f = settleF (fun _ => true) 0 D2.c D2.f := hs
          refine ⟨rfl, ?_, HF2.out.trans HP.out.2 (fun k h => .inl h)⟩
          show IsRef _ R r (settleD (fun _ => true) D2)
          have := HP.out.1
          unfold settleD
          rw [← hs]
          exact this
        | succ k1 =>
          have hi : i < N := by have := HI.out; omega
          have hi0 : (0 : Int) ≤ (i : Int) := by omega
          have hi1 : (i : Int) < (N : Int) := by omega
          obtain ⟨p, q, gb, cap', hp, hq, hpq, epv, d1, d2⟩ := HAT.out.pend (i := i) (by show i < D2.c.length; rw [HN.out]; exact hi)
          injection epv with e1 e2 e3
          subst e1
          have HPQ := Aside0.mk hpq
          have HP := Aside0.mk hp
          have LS := Aside0.mk (lasts_calls' r R { D2 with f := f } lv2 (.slice (some ⟨gb, 0, none⟩) N cap) qs n wr HAT.out i p q hp hq)
          have hpd : D2.c[i]? = some p := hp
          have HS3 : Aside0 (settleF (fun _ => true) (i + 1) (D2.c.drop (i + 1)) (upd f p.1 p.2) = settleF (fun _ => true) 0 D2.c D2.f) := ⟨by rw [← HS.out, settleF_drop _ _ _ _ hpd, if_pos rfl]⟩
          have HI3 : Aside0 (i + 1 + k1 = N) := ⟨by have := HI.out; omega⟩
          clear hp hq hpq e2 e3 hpd
          go_wp2_with fail
          refine LS.out.mono ?_
          rintro e w3 ⟨rfl, ha3, hf3⟩
          have HA3 := Aside0.mk ha3
          have HF3 : Aside0 (Fr R w w3) := ⟨HF2.out.trans hf3 (fun k h => .inl h)⟩
          clear ha3 hf3
          go_wp2_with fail
          go_roundg k1
          case measure => omega
          case rel => exact ⟨i + 1, upd f p.1 p.2, by go_num, HI3, HS3, HA3, HF3⟩

set_option maxHeartbeats 4000000 in
set_option maxRecDepth 100000 in
theorem rmend_calls (r : Nat) (R : Nat → Prop) (D : DS) (B : Option Addr) (cp : Nat) (l : List Bool) (w : World) (h : IsRef w R r D) (hc : D.c.length ≤ 1000000) (hl : Kd.C Kd.bool w B l.length l) (hdis : ∀ ad, B = some ad → 0 < l.length → ¬ R ad.block) :
    Calls Try.prog 24 #[.pointer (some ⟨r, 0, none⟩), .slice B l.length cp] w fun e w' => e = .returned (.tuple #[]) ∧ IsRef w' R r (mendD l D) ∧ Fr R w w' := by
  have HL := Aside0.mk hl
  have HDI := Aside0.mk hdis
  obtain ⟨lv2, pv2, qs, n, hat⟩ := h.at
  obtain ⟨⟨A, cap, hpv⟩, _⟩ := hat.pv
  obtain ⟨N, hN⟩ : ∃ N, D.c.length = N := ⟨_, rfl⟩
  have HN := Aside0.mk hN
  rw [hN] at hpv
  subst hpv
  have HAT := Aside0.mk hat
  have HF2 := Aside0.mk (Fr.refl R w)
  rw [hN] at hc
  obtain ⟨M, hM⟩ : ∃ M, min N l.length = M := ⟨_, rfl⟩
  clear hat hN h hl hdis
  go_enter Try.func24, Try.ntmps24
  go_wp2_with fail
  go_loopg [4] M (fun kq v4 w' => ∃ (i : Nat) (f : Int → List Int), v4 = .int .i64 (i : Int) ∧ Aside0 (i + kq = M) ∧ Aside0 (settleF (keepB l) i (D.c.drop i) f = settleF (keepB l) 0 D.c D.f) ∧ Aside0 (RefAt w' R r { D with f := f } lv2 (.slice A N cap) qs n) ∧ Aside0 (Fr R w w'))
  case atStart => exact ⟨0, D.f, rfl, ⟨by omega⟩, ⟨by rw [List.drop_zero]⟩, HAT, HF2⟩
  case round =>
    clear HAT HF2
    obtain ⟨i, f, rfl, HI, HS, HAT, HF2⟩ := hrel
    obtain ⟨_, c1, f1, hlt2⟩ := HAT.out.pv
    have hi0 : (0 : Int) ≤ (i : Int) := by omega
    cases gk with
    | zero =>
      have hor : N ≤ i ∨ (i < N ∧ l.length ≤ i) := by have := HI.out; omega
      have hs : f = settleF (keepB l) 0 D.c D.f := by
        rw [← HS.out]
        rcases hor with h | ⟨_, h⟩
        · rw [List.drop_of_length_le (by rw [HN.out]; exact h)]
          rfl
        · exact (settleF_false _ _ _ _ (fun j hj => by unfold keepB; rw [decide_eq_false (by omega)]; rfl)).symm
      have HSS := Aside0.mk hs
      have P := HAT.out.is.putNil
      have P2 := P.1.putLeft (-1)
      have P3 := P2.1.putDown false
      have HP := Aside0.mk P
      have HP2 := Aside0.mk P2
      have HP3 := Aside0.mk P3
      obtain ⟨_, _, _, _, x2, x3, _, xf, _⟩ := HAT.out.is.cells
      have xf2 := xf 2
      have xf3 := xf 3
      clear P P2 P3 hs xf
      rcases hor with hor | ⟨hor, hor2⟩
      all_goals (
        go_wp2_with fail
        go_end0
        refine ⟨rfl, ?_, ((HF2.out.trans HP.out.2 (fun k h => .inl h)).trans HP2.out.2 (fun k h => .inl h)).trans HP3.out.2 (fun k h => .inl h)⟩
        show IsRef _ R r (mendD l D)
        have := HP3.out.1
        unfold mendD settleD
        rw [← HSS.out]
        exact this)
    | succ k1 =>
      have hi : i < N := by have := HI.out; omega
      have hi2 : i < l.length := by have := HI.out; omega
      have hi1 : (i : Int) < (N : Int) := by omega
      have hi3 : (i : Int) < (l.length : Int) := by omega
      obtain ⟨p, q, gb, cap', hp, hq, hpq, epv, d1, d2⟩ := HAT.out.pend (i := i) (by show i < D.c.length; rw [HN.out]; exact hi)
      injection epv with e1 e2 e3
      subst e1
      obtain ⟨ad, rfl, hx⟩ := Kd.at_bool (C_fr false HL.out HF2.out HDI.out) (i : Int) hi0 hi3
      rw [Int.toNat_natCast] at hx
      have HPQ := Aside0.mk hpq
      have LS := Aside0.mk (lasts_calls' r R { D with f := f } lv2 (.slice (some ⟨gb, 0, none⟩) N cap) qs n wr HAT.out i p q hp hq)
      have hpd : D.c[i]? = some p := hp
      have hkb : keepB l i = rdOf false l (i : Int) := by unfold keepB rdOf; rw [decide_eq_true hi2, Int.toNat_natCast]; rfl
      have HS3 : Aside0 (settleF (keepB l) (i + 1) (D.c.drop (i + 1)) (if rdOf false l (i : Int) = true then upd f p.1 p.2 else f) = settleF (keepB l) 0 D.c D.f) := ⟨by rw [← HS.out, settleF_drop _ _ _ _ hpd, hkb]⟩
      have HI3 : Aside0 (i + 1 + k1 = M) := ⟨by have := HI.out; omega⟩
      clear hp hq hpq e2 e3 hpd hkb
      generalize rdOf false l (i : Int) = kv at hx HS3
      cases kv with
      | true =>
        rw [if_pos rfl] at HS3
        go_wp2_with fail
        refine LS.out.mono ?_
        rintro e w3 ⟨rfl, ha3, hf3⟩
        have HA3 := Aside0.mk ha3
        have HF3 : Aside0 (Fr R w w3) := ⟨HF2.out.trans hf3 (fun k h => .inl h)⟩
        clear ha3 hf3
        go_wp2_with fail
        go_roundg k1
        case measure => omega
        case rel => exact ⟨i + 1, upd f p.1 p.2, by go_num, HI3, HS3, HA3, HF3⟩
      | false =>
        rw [if_neg (by decide)] at HS3
        go_wp2_with fail
        go_roundg k1
        case measure => omega
        case rel => exact ⟨i + 1, f, by go_num, HI3, HS3, HAT, HF2⟩
end Go.Proofs.Ytppgbfkhiofjiaa.X

namespace Go.Proofs.Ytppgbfkhiofjiaa.X
open Go.RowKit Go.Proofs.YtppgbfkhiofjiaaW.PrintWords Go.Proofs.YtppgbfkhiofjiaaW.PrintLast Go.Proofs.YtppgbfkhiofjiaaW.PrintMore
set_option linter.unusedVariables false
set_option linter.unusedSimpArgs false

theorem info100 : (Try.prog.info? 100).map (fun i => (i.zero, i.size, i.bytes)) = some (some (.agg #[.int .i64 0, .slice none 0 0]), 2, 32) := by kernel_rfl
theorem rwrite_end {W2 w3 w5 : World} {R : Nat → Prop} {r n0 g1 cap1 g2 cap2 : Nat} {D2 : DS} {lv pv : Value} {qs : List (Int × Value)} {b : List Int} {k : Int} (h : RefAt W2 R r D2 lv pv qs n0) (f3 : Fr (fun _ => False) W2 w3)
    (ho1 : w3.ownsRow 0 5 1 (.slice (some ⟨g1, 0, none⟩) 64 cap1) 64 (nums .u8 b)) (hg1 : W2.heap.size ≤ g1) (hk : 0 ≤ k ∧ k < D2.n) (hb : b.length = 64)
    (ho2 : w5.ownsRow 0 100 2 (.slice (some ⟨g2, 0, none⟩) (D2.c.length + 1) cap2) (D2.c.length + 1) (encW qs ++ [.int .i64 k, .slice (some ⟨g1, 0, none⟩) 64 cap1])) (f5 : Fr (fun b => pv.ownBlock = some b) w3 w5) (hg2 : pv.ownBlock = some g2 ∨ w3.heap.size ≤ g2) :
    IsRef (w5.setCell ⟨r, 1, none⟩ (.slice (some ⟨g2, 0, none⟩) (D2.c.length + 1) cap2)) (fun k => R k ∨ (W2.heap.size ≤ k ∧ k < w5.heap.size)) r { D2 with c := D2.c ++ [(k, b)] } ∧
      Fr R W2 (w5.setCell ⟨r, 1, none⟩ (.slice (some ⟨g2, 0, none⟩) (D2.c.length + 1) cap2)) := by
  have hlt := h.is.lt
  have h3 := h.fr f3 (fun _ _ h => h)
  obtain ⟨lb, h1, h2, a3, a4, a5, a6, a7, a8, a9, a10, a11, a12, a13⟩ := h3
  have s23 : W2.heap.size ≤ w3.heap.size := f3.size
  have s35 : w3.heap.size ≤ w5.heap.size := f5.size
  have g1lt : g1 < w3.heap.size := q_lt (q_of_own ho1) g1 rfl
  have g2lt : g2 < w5.heap.size := q_lt (q_of_own ho2) g2 rfl
  have pvne : ∀ {e sz m : Nat} {v : Value} {xs : List Value}, w3.ownsRow 0 e sz v m xs → e ≠ 100 → ∀ j, v.ownBlock = some j → pv.ownBlock ≠ some j := fun {e sz m v xs} ho hne j hj e' => by
    obtain ⟨cs, hc⟩ := own_block_typed ho hj
    exact own_ne a10 hc (fun x => hne x.symm) e'
  have h15 : w5.heap[r]? = some (.cells #[lv, pv, .int .i64 D2.left, .bool D2.down, .int .i64 D2.steps] 81 (0, 0)) := (f5.keep r (by have := hlt r h2; omega) (own_ne a10 h1 (by decide))).trans h1
  have hg := heap_setCell_same w5 r 1 _ 81 (.slice (some ⟨g2, 0, none⟩) (D2.c.length + 1) cap2) h15
  have far : ∀ j, j ≠ r → (w5.setCell ⟨r, 1, none⟩ (.slice (some ⟨g2, 0, none⟩) (D2.c.length + 1) cap2)).heap[j]? = w5.heap[j]? := fun j hj => heap_setCell_other w5 _ j _ hj
  have keep : ∀ {e sz m : Nat} {v : Value} {xs : List Value}, w3.ownsRow 0 e sz v m xs → e ≠ 100 → e ≠ 81 → (w5.setCell ⟨r, 1, none⟩ (.slice (some ⟨g2, 0, none⟩) (D2.c.length + 1) cap2)).ownsRow 0 e sz v m xs := fun {e sz m v xs} ho hne1 hne2 => ownsRow_kept ho (fun j hj => by
    rw [far j (fun e' => own_ne ho h1 hne2 (e' ▸ hj))]
    exact f5.keep j (q_lt (q_of_own ho) j hj) (pvne ho hne1 j hj))
  have hsz : (w5.setCell ⟨r, 1, none⟩ (.slice (some ⟨g2, 0, none⟩) (D2.c.length + 1) cap2)).heap.size = w5.heap.size := by simp [World.setCell]
  have hf : Fr R W2 (w5.setCell ⟨r, 1, none⟩ (.slice (some ⟨g2, 0, none⟩) (D2.c.length + 1) cap2)) := ((f3.mono (fun k hk => hk.elim)).trans f5 (fun j hj => .inl (a4 j hj))).setCell (.inl h2) _
  refine ⟨⟨lv, .slice (some ⟨g2, 0, none⟩) (D2.c.length + 1) cap2, lb, qs ++ [(k, .slice (some ⟨g1, 0, none⟩) 64 cap1)], n0, by rw [hg]; rfl, .inl h2, fun j hj => .inl (a3 j hj), fun j hj => ?_, a5, a6, a7, keep a8 (by decide) (by decide), a9, ?_, ⟨?_, fun i p q hp hq => ?_⟩, ?_, fun j hj => ?_⟩, hf⟩
  · have e : g2 = j := by simpa [Value.ownBlock] using hj
    subst e
    rcases hg2 with e | e
    · exact .inl (a4 g2 e)
    · exact .inr ⟨by omega, g2lt⟩
  · show World.ownsRow _ 0 100 2 _ (D2.c ++ [(k, b)]).length _
    rw [encW_append, List.length_append, List.length_singleton]
    exact ownsRow_kept ho2 (fun j hj => far j (fun e' => own_ne ho2 h15 (by decide) (e' ▸ hj)))
  · simp [a11.1]
  · have hp : (D2.c ++ [(k, b)])[i]? = some p := hp
    by_cases hi : i < D2.c.length
    · rw [List.getElem?_append_left hi] at hp
      rw [List.getElem?_append_left (by rw [a11.1]; exact hi)] at hq
      obtain ⟨b1, b2, b3⟩ := a11.2 i p q hp hq
      exact ⟨b1, keep b2 (by decide) (by decide), fun j hj => ⟨.inl (b3 j hj).1, (b3 j hj).2⟩⟩
    · have hil := (List.getElem?_eq_some_iff.1 hp).1
      rw [List.length_append, List.length_singleton] at hil
      have hie : i = D2.c.length := by omega
      subst hie
      rw [List.getElem?_concat_length] at hp
      rw [← a11.1, List.getElem?_concat_length] at hq
      injection hp with hp
      injection hq with hq
      subst hp
      subst hq
      refine ⟨rfl, keep ho1 (by decide) (by decide), fun j hj => ?_⟩
      have e : g1 = j := by simpa [Value.ownBlock] using hj
      subst e
      refine ⟨.inr ⟨hg1, by omega⟩, fun e => ?_⟩
      have := hlt g1 (a3 g1 e)
      omega
  · intro p hp
    have hp : p ∈ D2.c ++ [(k, b)] := hp
    rcases List.mem_append.1 hp with hp | hp
    · exact a12 p hp
    · have : p = (k, b) := by simpa using hp
      subst this
      exact ⟨hk.1, hk.2, hb⟩
  · rw [hsz]
    rcases hj with hj | hj
    · have := hlt j hj
      omega
    · exact hj.2

theorem RefAt.pown {w : World} {R : Nat → Prop} {r : Nat} {D : DS} {lv pv : Value} {qs : List (Int × Value)} {n : Nat} (h : RefAt w R r D lv pv qs n) : w.ownsRow 0 100 2 pv D.c.length (encW qs) ∧ pv.ownBlock ≠ some r := by
  obtain ⟨lb, h1, h2, h3, h4, h5, h6, h7, h8, h9, h10, h11, h12, h13⟩ := h
  exact ⟨h10, own_ne h10 h1 (by decide)⟩
theorem look_neg {D : DS} {n : Int} (hd : D.down = false) (h : n < 0) : lookD D n = 2 := by
  unfold lookD
  rw [hd, if_neg (by decide), if_pos h]
theorem look_over {D : DS} {n : Int} (hd : D.down = false) (h1 : ¬ n < 0) (h : D.n ≤ n) : lookD D n = 2 := by
  unfold lookD
  rw [hd, if_neg (by decide), if_neg h1, if_pos h]
theorem write_out {D : DS} {n : Int} {b : List Int} (h : lookD D n = 2) : writeD D n b = (2, D) := by
  unfold writeD
  rw [h, if_neg (by decide)]
set_option maxHeartbeats 8000000 in
set_option maxRecDepth 100000 in
theorem rwrite_calls (r : Nat) (R : Nat → Prop) (D : DS) (n : Int) (A : Option Addr) (cp : Nat) (b : List Int) (w : World) (h : IsRef w R r D) (hs : -1 ≤ D.steps ∧ D.steps < 9223372036854775807) (hl : D.left ≤ 9223372036854775807)
    (hc : D.c.length ≤ 1000000) (hb : Kd.C (Kd.int .u8) w A b.length b) (hcap : b.length ≤ cp) (hdis : ∀ ad, A = some ad → 0 < b.length → ¬ R ad.block) :
    Calls Try.prog 50 #[.pointer (some ⟨r, 0, none⟩), .int .i64 n, .slice A b.length cp] w fun e w' => e = .returned (.int .i64 (writeD D n b).1) ∧ (∃ R', IsRef w' R' r (writeD D n b).2 ∧ ∀ k, R' k → R k ∨ w.heap.size ≤ k) ∧ Fr R w w' := by
  have H := Aside0.mk h
  have HB := Aside0.mk hb
  have HDI := Aside0.mk hdis
  have SEC := Aside0.mk (rsectors_calls r R D w h)
  obtain ⟨lv, pv, c0, c1, c2, c3, c4, cf, hlt⟩ := h.cells
  obtain ⟨dd, hdd⟩ : ∃ dd, D.down = dd := ⟨_, rfl⟩
  have HDD := Aside0.mk hdd
  rw [hdd] at c3
  clear c0 c1 c2 c4 cf h hb hdis hdd
  cases dd with
  | true =>
    have RR : Aside0 (writeD D n b = (230, D)) := ⟨by unfold writeD lookD; rw [HDD.out, if_pos rfl, if_neg (by decide)]⟩
    clear hs hl hc hcap
    go_enter Try.func50, Try.ntmps50
    go_wp2
    go_ret
    rw [RR.out]
    exact ⟨rfl, ⟨R, H.out, fun k hk => .inl hk⟩, Fr.refl _ _⟩
  | false =>
    by_cases h1 : n < 0
    · have RR : Aside0 (writeD D n b = (2, D)) := ⟨write_out (look_neg HDD.out h1)⟩
      clear hs hl hc hcap
      go_enter Try.func50, Try.ntmps50
      go_wp2
      go_ret
      rw [RR.out]
      exact ⟨rfl, ⟨R, H.out, fun k hk => .inl hk⟩, Fr.refl _ _⟩
    · by_cases h2 : D.n ≤ n
      · have RR : Aside0 (writeD D n b = (2, D)) := ⟨write_out (look_over HDD.out h1 h2)⟩
        clear hs hl hc hcap
        go_enter Try.func50, Try.ntmps50
        go_wp2_with fail
        refine SEC.out.mono ?_
        rintro e w' ⟨rfl, ⟨nq, rfl⟩⟩
        go_wp2
        go_ret
        rw [RR.out]
        exact ⟨rfl, ⟨R, H.out, fun k hk => .inl hk⟩, (Fr.refl _ _).drewN _⟩
      · have hlook : Aside0 (lookD D n = 0) := ⟨by unfold lookD; rw [HDD.out, if_neg (by decide), if_neg h1, if_neg h2]⟩
        by_cases h3 : b.length = 64
        rotate_left
        · have RR : Aside0 (writeD D n b = (6, D)) := ⟨by unfold writeD; rw [if_pos hlook.out, if_neg h3]⟩
          have h3b : ((b.length : Int) != 64) = true := by simp; omega
          clear hs hl hc hcap
          go_enter Try.func50, Try.ntmps50
          go_wp2_with fail
          refine SEC.out.mono ?_
          rintro e w' ⟨rfl, ⟨nq, rfl⟩⟩
          go_wp2
          go_ret
          rw [RR.out]
          exact ⟨rfl, ⟨R, H.out, fun k hk => .inl hk⟩, (Fr.refl _ _).drewN _⟩
        · have ST := fun (nq : Nat) => fails_calls r R D (w.drewN nq) (H.out.move (Nat.le_refl _) (fun _ _ => rfl)) hs hl
          have ST := Aside0.mk ST
          obtain ⟨ok, hok⟩ : ∃ ok, (stepD D).1 = ok := ⟨_, rfl⟩
          have RR : Aside0 (writeD D n b = if ok = true then (0, { (stepD D).2 with c := (stepD D).2.c ++ [(n, b)] }) else (230, (stepD D).2)) := ⟨by unfold writeD; rw [if_pos hlook.out, if_pos h3, hok]⟩
          have hDc : Aside0 ((stepD D).2.c = D.c ∧ (stepD D).2.n = D.n) := ⟨⟨(stepD_c D).1, (stepD_c D).2.2.2⟩⟩
          rw [hok] at ST
          rw [h3] at HB ⊢
          have h64 := Aside0.mk h3
          generalize (stepD D).2 = D2 at *
          clear hok hs hl h3
          cases ok with
          | false =>
            clear hc hcap
            go_enter Try.func50, Try.ntmps50
            go_wp2_with fail
            refine SEC.out.mono ?_
            rintro e w' ⟨rfl, ⟨nq, rfl⟩⟩
            go_wp2_with fail
            refine (ST.out nq).mono ?_
            rintro e w2 ⟨rfl, hd2, hf2⟩
            have HD2 := Aside0.mk hd2
            have HF2 := Aside0.mk hf2
            clear hd2 hf2
            go_wp2
            go_ret
            rw [RR.out]
            exact ⟨rfl, ⟨R, HD2.out, fun k hk => .inl hk⟩, HF2.out.drewN'⟩
          | true =>
            clear hcap
            go_enter Try.func50, Try.ntmps50
            go_wp2_with fail
            refine SEC.out.mono ?_
            rintro e w' ⟨rfl, ⟨nq, rfl⟩⟩
            go_wp2_with fail
            refine (ST.out nq).mono ?_
            rintro e w2 ⟨rfl, hd2, hf2⟩
            obtain ⟨lv2, pv2, qs, n0, hat⟩ := hd2.at
            obtain ⟨⟨Ap, cap, hpv⟩, c1, f1, hlt2⟩ := hat.pv
            obtain ⟨N, hN⟩ : ∃ N, D2.c.length = N := ⟨_, rfl⟩
            have HN := Aside0.mk hN
            rw [hN] at hpv
            subst hpv
            have HAT := Aside0.mk hat
            have HF2 := Aside0.mk hf2
            obtain ⟨bk, o, rfl, hr⟩ := bytes_range (h64.out.symm ▸ HB.out) (by rw [h64.out]; omega)
            have HR2 : Aside0 (w2.rangeAt bk o (nums .u8 b)) := ⟨fun j v hj => by
              have q := hr j v hj
              exact (World.cell?_of_block (w := w) (hf2.keep bk (World.block_lt_of_cell? w _ q) (HDI.out _ rfl (by rw [h64.out]; omega)))).trans q⟩
            have hNN : N ≤ 1000000 := by rw [← hN, hDc.out.1]; exact hc
            clear hd2 hf2 hat hN hr hc
            have HC1 := Aside0.mk c1
            have HF1 := Aside0.mk f1
            have HLT2 := Aside0.mk hlt2
            have HIN : Aside0 (0 ≤ n ∧ n < D2.n) := ⟨by rw [hDc.out.2]; exact ⟨by omega, by omega⟩⟩
            have HBK : Aside0 (bk < w2.heap.size) := ⟨World.block_lt_of_cell? w2 _ (HR2.out 0 (.int .u8 (rd b 0)) (by simp [nums, rd, List.getD_eq_getElem?_getD, h64.out]))⟩
            obtain ⟨i5, hi5, hz5a, hz5b, hz5c⟩ := info_parts info5
            obtain ⟨i100, hi100, hz100a, hz100b, hz100c⟩ := info_parts info100
            have HK : Aside0 (∀ W : World, W.heap = (w2.alloc (.cells #[] 5)).heap → W.ownsRow 0 5 1 (.slice (some ⟨w2.heap.size, 0, none⟩) 0 0) 0 []) := ⟨fun W hW => ⟨rfl, .inr ⟨w2.heap.size, 0, #[], rfl, Nat.zero_le _, by rw [hW]; exact heap_alloc_new _ _, Nat.le_refl _, by decide, rfl, rfl⟩⟩⟩
            have HSRC : Aside0 (∀ W : World, W.heap = (w2.alloc (.cells #[] 5)).heap → ∀ j u, (nums .u8 b)[j]? = some u → W.cell? ((⟨bk, o, none⟩ : Addr).add j) = some u) := ⟨fun W hW j u hu => by
              have := HR2.out j u hu
              rw [Addr.add_mid, ← this]
              exact World.cell?_of_block (by rw [hW]; exact Below.heap_alloc _ _ _ HBK.out)⟩
            have hone1 : ∀ u ∈ nums .u8 b, u.oneCell' = true := fun u hu => by
              obtain ⟨x, _, rfl⟩ := List.mem_map.1 hu
              rfl
            have hnl : Aside0 ((nums .u8 b).length = 64 * 1) := ⟨by rw [nums_length, h64.out]⟩
            have hone2 : ∀ (g c : Nat), ∀ u ∈ [Value.int .i64 n, .slice (some ⟨g, 0, none⟩) 64 c], u.oneCell' = true := fun g c u hu => by
              rcases List.mem_cons.1 hu with rfl | hu
              · rfl
              · rw [List.mem_singleton.1 hu]; rfl
            have HNE : Aside0 (some r ≠ (Value.slice Ap N cap).ownBlock) := ⟨fun e => HAT.out.pown.2 e.symm⟩
            have HX1 : Aside0 (∀ (W w3 : World) (g1 cap1 : Nat), W.heap = (w2.alloc (.cells #[] 5)).heap → W.os = w2.os → W.tape = w2.tape → W.output = w2.output → w3.ownsRow 0 5 1 (.slice (some ⟨g1, 0, none⟩) (0 + 64) cap1) (0 + 64) ([] ++ nums .u8 b) → W.grownBy w3 (Value.slice (some ⟨w2.heap.size, 0, none⟩) 0 0).ownBlock → ((Value.slice (some ⟨w2.heap.size, 0, none⟩) 0 0).ownBlock = some g1 ∨ g1 = W.heap.size) →
                Aside0 (Fr (fun _ => False) w2 w3) ∧ Aside0 (w3.ownsRow 0 5 1 (.slice (some ⟨g1, 0, none⟩) 64 cap1) 64 (nums .u8 b)) ∧ Aside0 (w2.heap.size ≤ g1) ∧ w3.cell? ⟨r, 1, none⟩ = some (.slice Ap N cap) ∧ r < w3.heap.size ∧
                Aside0 (∀ W4 : World, W4.heap = (w3.alloc (.cells #[.int .i64 n, .slice (some ⟨g1, 0, none⟩) 64 cap1] 100)).heap → W4.ownsRow 0 100 2 (.slice Ap N cap) N (encW qs))) := ⟨fun W w3 g1 cap1 e1 e2 e3 e4 ho hg hat => by
              have f0 : Fr (fun _ => False) w2 W := ⟨e2, e3, e4, by rw [e1]; simp, fun k hk _ => by rw [e1]; exact Below.heap_alloc _ _ _ hk⟩
              have f3 : Fr (fun _ => False) w2 w3 := f0.trans (Fr.of_grownBy hg) (fun k hk => .inr (by
                have e : w2.heap.size = k := by simpa [Value.ownBlock] using hk
                omega))
              have a3 := HAT.out.fr f3 (fun _ _ h => h)
              rw [Nat.zero_add, List.nil_append] at ho
              refine ⟨⟨f3⟩, ⟨ho⟩, ⟨?_⟩, a3.pv.2.1, a3.pv.2.2.2, ⟨fun W4 hW => ?_⟩⟩
              · rcases hat with e | e
                · have e : w2.heap.size = g1 := by simpa [Value.ownBlock] using e
                  omega
                · rw [e, e1]; simp
              · have h := a3.pown.1
                rw [HN.out] at h
                exact ownsRow_kept h (fun k e => by
                  rw [hW]
                  exact Below.heap_alloc _ _ _ (q_lt (q_of_own h) k e))⟩
            have HX2 : Aside0 (∀ (w3 W4 w5 : World) (g1 cap1 : Nat), r < w3.heap.size → w3.cell? ⟨r, 1, none⟩ = some (.slice Ap N cap) → W4.heap = (w3.alloc (.cells #[.int .i64 n, .slice (some ⟨g1, 0, none⟩) 64 cap1] 100)).heap → W4.grownBy w5 (Value.slice Ap N cap).ownBlock → w3.frozen? ⟨r, 1, none⟩ = false →
                w5.cell? ⟨r, 1, none⟩ = some (.slice Ap N cap) ∧ w5.frozen? ⟨r, 1, none⟩ = false) := ⟨fun w3 W4 w5 g1 cap1 hr hc hW hg hf => by
              have hb : w5.heap[r]? = w3.heap[r]? := (hg.block r (by rw [hW]; simp; omega) HNE.out).trans (by rw [hW]; exact Below.heap_alloc _ _ _ hr)
              exact ⟨(World.cell?_of_block hb).trans hc, (World.frozen?_of_block hb).trans hf⟩⟩
            have HX3 : Aside0 (∀ (w3 : World), Fr (fun _ => False) w2 w3 → w3.frozen? ⟨r, 1, none⟩ = false) := ⟨fun w3 f3 => (HAT.out.fr f3 (fun _ _ h => h)).pv.2.2.1⟩
            go_wp2_with fail
            go_region_law (first
              | (refine step_append_lies _ rfl (.tmp 30) (.tmp 31) 22 rfl 0 5 i5 _ 1 1 Try.underlying22 hi5 hz5a hz5b hz5c rfl (by omega) (.slice (some ⟨w2.heap.size, 0, none⟩) 0 0) 0 [] (by rfl) (HK.out _ (by rfl)) ⟨bk, o, none⟩ 64 cp (nums .u8 b) (by rfl) hnl.out (HSRC.out _ (by rfl)) hone1 (by omega) (by unfold maxLen; omega) (by omega) (Nat.zero_le _) _ rfl ?_; intro g1 cap1 w3 ho1 hg1 hat1 hlt1; obtain ⟨F3, HO1, HG1, c13, hl3, HO3⟩ := HX1.out _ w3 g1 cap1 (by rfl) (by rfl) (by rfl) (by rfl) ho1 hg1 hat1; clear ho1 hg1 hat1 hlt1; rw [Nat.zero_add])
              | (refine step_append_lies _ rfl (.tmp 28) (.tmp 34) 79 rfl 0 100 i100 _ 2 32 Try.underlying79 hi100 hz100a hz100b hz100c rfl (by omega) (.slice Ap N cap) N (encW qs) (by rfl) (HO3.out _ (by rfl)) ⟨w3.heap.size, 0, none⟩ 1 1 [.int .i64 n, .slice (some ⟨g1, 0, none⟩) 64 cap1] (by rfl) rfl (World.news_of_block (cs := #[.int .i64 n, .slice (some ⟨g1, 0, none⟩) 64 cap1]) (t := 100) (fr := (0, 0)) (heap_alloc_new _ _)) (hone2 g1 cap1) (by omega) (by unfold maxLen; omega) (by omega) (Nat.zero_le _) _ rfl ?_; intro g2 cap2 w5 ho2 hg2 hat2 hlt5; obtain ⟨c15, f15⟩ := HX2.out w3 _ w5 g1 cap1 hl3 c13 (by rfl) hg2 (HX3.out _ F3.out); have HO2 := Aside0.mk ho2; have HG2 := Aside0.mk hg2; have HA2 := Aside0.mk hat2; clear ho2 hg2 hat2 hlt5))
            all_goals (
              have hN := HN.out
              subst hN
              have E := rwrite_end HAT.out F3.out HO1.out HG1.out HIN.out h64.out HO2.out (((Fr.refl _ w3).alloc _).trans (Fr.of_grownBy HG2.out) (fun b h => .inl h)) (HA2.out.imp id (fun e => by rw [e]; simp))
              have EE := Aside0.mk E
              clear E c15 f15
              go_wp2_with fail
              go_ret
              rw [RR.out, if_pos trivial]
              exact ⟨rfl, ⟨_, EE.out.1, fun k hk => hk.elim .inl (fun h => .inr (Nat.le_trans HF2.out.size h.1))⟩, (HF2.out.drewN').trans EE.out.2 (fun k h => .inl h)⟩)
end Go.Proofs.Ytppgbfkhiofjiaa.X

namespace Go.Proofs.Ytppgbfkhiofjiaa.X
open Go.RowKit Go.Proofs.YtppgbfkhiofjiaaW.PrintWords Go.Proofs.YtppgbfkhiofjiaaW.PrintLast Go.Proofs.YtppgbfkhiofjiaaW.PrintMore
set_option linter.unusedVariables false
set_option linter.unusedSimpArgs false

set_option maxHeartbeats 2000000 in
theorem rread_bad (r : Nat) (R : Nat → Prop) (D : DS) (n : Int) (w : World) (h : IsRef w R r D) (h1 : lookD D n ≠ 0) :
    Calls Try.prog 42 #[.pointer (some ⟨r, 0, none⟩), .int .i64 n] w fun e w' => e = .returned (.tuple #[.slice none 0 0, .int .i64 (lookD D n)]) ∧ Drawn0 w w' := by
  have SEC := Aside0.mk (rsectors_calls r R D w h)
  obtain ⟨lv, pv, c0, c1, c2, c3, c4, cf, hlt⟩ := h.cells
  obtain ⟨dd, hdd⟩ : ∃ dd, D.down = dd := ⟨_, rfl⟩
  have HDD := Aside0.mk hdd
  rw [hdd] at c3
  clear c0 c1 c2 c4 cf h hdd
  cases dd with
  | true =>
    have RR : Aside0 (lookD D n = 230) := ⟨by unfold lookD; rw [HDD.out, if_pos rfl]⟩
    go_enter Try.func42, Try.ntmps42
    go_wp2
    go_ret2
    rw [RR.out]
    exact ⟨rfl, Drawn0.refl _⟩
  | false =>
    by_cases h2 : n < 0
    · have RR : Aside0 (lookD D n = 2) := ⟨look_neg HDD.out h2⟩
      go_enter Try.func42, Try.ntmps42
      go_wp2
      go_ret2
      rw [RR.out]
      exact ⟨rfl, Drawn0.refl _⟩
    · by_cases h3 : D.n ≤ n
      · have RR : Aside0 (lookD D n = 2) := ⟨look_over HDD.out h2 h3⟩
        go_enter Try.func42, Try.ntmps42
        go_wp2_with fail
        refine SEC.out.mono ?_
        rintro e w' ⟨rfl, ⟨nq, rfl⟩⟩
        go_wp2
        go_ret2
        rw [RR.out]
        exact ⟨rfl, ⟨nq, rfl⟩⟩
      · exact absurd (by unfold lookD; rw [HDD.out, if_neg (by decide), if_neg h2, if_neg h3] : lookD D n = 0) h1

/-- The bytes that last of one sector, in the cells. -/
theorem RefAt.sector {w : World} {R : Nat → Prop} {r : Nat} {D : DS} {lv pv : Value} {qs : List (Int × Value)} {n : Nat} (h : RefAt w R r D lv pv qs n) {k : Nat} (hk : k < n) :
    ∃ gb cap, lv = .slice (some ⟨gb, 0, none⟩) (n * 64) cap ∧ n * 64 ≤ cap ∧ w.cell? ⟨r, 0, none⟩ = some lv ∧ (D.f k).length = 64 ∧ ∀ j u, (nums .u8 (D.f k))[j]? = some u → w.cell? ⟨gb, k * 64 + j, none⟩ = some u := by
  obtain ⟨lb, h1, h2, h3, h4, h5, h6, h7, h8, h9, h10, h11, h12, h13⟩ := h
  have hll : lb.length = n * 64 := by have := h8.1; simpa [nums] using this
  have hc : w.cell? ⟨r, 0, none⟩ = some lv := by rw [cell_of_row w r _ _ 81 (0, 0) h1]; rfl
  rcases h8.2 with ⟨_, hz⟩ | ⟨gb, cap, cur, e, b0, b1, b2, b3, b4, b5⟩
  · omega
  · refine ⟨gb, cap, e, b2, hc, by rw [← h9 k hk, List.length_take, List.length_drop]; omega, fun j u hu => ?_⟩
    have hcs := h8.cells (g := gb) (by rw [e]; rfl)
    have := hcs (k * 64 + j) u (by
      rw [← h9 k hk] at hu
      unfold nums at hu ⊢
      rw [List.getElem?_map, List.getElem?_take] at hu
      rw [List.getElem?_map]
      split at hu
      · rw [List.getElem?_drop] at hu; exact hu
      · cases hu)
    rwa [Addr.add_mid, Nat.zero_add] at this

set_option maxHeartbeats 4000000 in
set_option maxRecDepth 100000 in
theorem rread_calls (r : Nat) (R : Nat → Prop) (D : DS) (n : Int) (w : World) (h : IsRef w R r D) (h1 : lookD D n = 0) (hc : D.c.length ≤ 1000000) :
    Calls Try.prog 42 #[.pointer (some ⟨r, 0, none⟩), .int .i64 n] w fun e w' => ∃ g cap, e = .returned (.tuple #[.slice (some ⟨g, 0, none⟩) 64 cap, .int .i64 0]) ∧ w'.ownsRow 0 5 1 (.slice (some ⟨g, 0, none⟩) 64 cap) 64 (nums .u8 (readC n D.c (D.f n))) ∧ Fr (fun _ => False) w w' := by
  have hdn : D.down = false := by
    cases hd : D.down with
    | false => rfl
    | true => unfold lookD at h1; rw [hd, if_pos rfl] at h1; exact absurd h1 (by decide)
  have hn0 : ¬ n < 0 := fun h2 => by rw [look_neg hdn h2] at h1; exact absurd h1 (by decide)
  have hn1 : ¬ D.n ≤ n := fun h2 => by rw [look_over hdn hn0 h2] at h1; exact absurd h1 (by decide)
  have SEC := Aside0.mk (rsectors_calls r R D w h)
  obtain ⟨lv, pv, qs, m, hat⟩ := h.at
  obtain ⟨k, rfl⟩ := Int.eq_ofNat_of_zero_le (Int.not_lt.1 hn0)
  have hDn : D.n = m := by obtain ⟨lb, _, _, _, _, h5, _⟩ := hat; exact h5
  have hkm : k < m := by omega
  have hm : m ≤ 4096 := by obtain ⟨lb, _, _, _, _, _, _, h7, _⟩ := hat; exact h7
  obtain ⟨gb, cap, rfl, hcap, c0, hl64, hcs⟩ := hat.sector hkm
  obtain ⟨⟨Ap, capp, hpv⟩, c1, f1, hlt⟩ := hat.pv
  obtain ⟨N, hN⟩ : ∃ N, D.c.length = N := ⟨_, rfl⟩
  have HN := Aside0.mk hN
  rw [hN] at hpv hc
  subst hpv
  have c3 : w.cell? ⟨r, 3, none⟩ = some (.bool false) := by
    obtain ⟨_, _, _, _, _, c3, _⟩ := h.cells
    rw [hdn] at c3
    exact c3
  have HAT := Aside0.mk hat
  have HC1 := Aside0.mk c1
  have HL : Aside0 ((D.f (k : Int)).length = 64) := ⟨hl64⟩
  have HCS := Aside0.mk hcs
  have hnk : ¬ ((k : Int) < 0) := by omega
  clear hat hcs f1 hl64 hN h h1 hdn hn0 hn1
  have hk0 : (0 : Int) ≤ (k : Int) * 64 := by omega
  have hne : ¬ cap = k * 64 := by omega
  have hkn : k ≤ m := by omega
  have htn : ((k : Int) * 64).toNat = k * 64 := by omega
  have ht2 : ((k : Int) * 64 + 64).toNat = k * 64 + 64 := by omega
  have hle : (k : Int) * 64 + 64 ≤ (cap : Int) := by omega
  have hDk : ¬ D.n ≤ (k : Int) := by omega
  have hmk : decide (m ≤ k) = false := by simp; omega
  go_enter Try.func42, Try.ntmps42
  go_wp2_with fail
  refine SEC.out.mono ?_
  rintro e w' ⟨rfl, ⟨nq, rfl⟩⟩
  go_wp2_with fail
  clear htn ht2 hle hDk hne hk0 hkn
  go_loopg [6, 7] N (fun kq v6 v7 w' => ∃ (i bk o c : Nat) (cur : List Int), v6 = .slice (some ⟨bk, o, none⟩) 64 c ∧ v7 = .int .i64 (i : Int) ∧ w' = w.drewN nq ∧ Aside0 (i + kq = N) ∧ Aside0 (cur.length = 64) ∧ Aside0 (∀ j u, (nums .u8 cur)[j]? = some u → w.cell? ⟨bk, o + j, none⟩ = some u) ∧
      Aside0 (readC (k : Int) (D.c.drop i) cur = readC (k : Int) D.c (D.f (k : Int))))
  case atStart => exact ⟨0, gb, k * 64, cap - k * 64, D.f (k : Int), rfl, rfl, rfl, ⟨by omega⟩, HL, HCS, ⟨by rw [List.drop_zero]⟩⟩
  case round =>
    obtain ⟨i, bk, o, c, cur, rfl, rfl, rfl, HI, HL2, HCS2, HS⟩ := hrel
    have hi0 : (0 : Int) ≤ (i : Int) := by omega
    cases gk with
    | zero =>
      have hi : i = N := by have := HI.out; omega
      subst hi
      have RR : Aside0 (cur = readC (k : Int) D.c (D.f (k : Int))) := ⟨by
        have hs := HS.out
        rw [List.drop_of_length_le (by rw [HN.out]; exact Nat.le_refl _)] at hs
        exact hs⟩
      obtain ⟨i5, hi5, hz5a, hz5b, hz5c⟩ := info_parts info5
      have HK : Aside0 (∀ W : World, W.heap = (w.alloc (.cells #[] 5)).heap → W.ownsRow 0 5 1 (.slice (some ⟨w.heap.size, 0, none⟩) 0 0) 0 []) := ⟨fun W hW => ⟨rfl, .inr ⟨w.heap.size, 0, #[], rfl, Nat.zero_le _, by rw [hW]; exact heap_alloc_new _ _, Nat.le_refl _, by decide, rfl, rfl⟩⟩⟩
      have HSRC : Aside0 (∀ W : World, W.heap = (w.alloc (.cells #[] 5)).heap → ∀ j u, (nums .u8 cur)[j]? = some u → W.cell? ((⟨bk, o, none⟩ : Addr).add j) = some u) := ⟨fun W hW j u hu => by
        have h := HCS2.out j u hu
        rw [Addr.add_mid, ← h]
        exact World.cell?_of_block (by rw [hW]; exact Below.heap_alloc _ _ _ (World.block_lt_of_cell? w _ h))⟩
      have hone1 : ∀ u ∈ nums .u8 cur, u.oneCell' = true := fun u hu => by
        obtain ⟨x, _, rfl⟩ := List.mem_map.1 hu
        rfl
      have hnl : Aside0 ((nums .u8 cur).length = 64 * 1) := ⟨by rw [nums_length, HL2.out]⟩
      go_wp2_with ((with_reducible refine gate_builtin (b := .append) (xs := #[.tmp 57, .tmp 58]) rfl ?_); at_builtin; refine wpList_append_lies _ rfl (.tmp 57) (.tmp 58) 22 rfl 0 5 i5 _ 1 1 Try.underlying22 hi5 hz5a hz5b hz5c rfl (by omega) (.slice (some ⟨w.heap.size, 0, none⟩) 0 0) 0 [] rfl (HK.out _ rfl) ⟨bk, o, none⟩ 64 c (nums .u8 cur) rfl hnl.out (HSRC.out _ rfl) hone1 (by omega) (by unfold maxLen; omega) (by omega) (Nat.zero_le _) _ rfl ?_; intro g1 cap1 w3 ho1 hg1 hat1 hlt1; have HO1 := Aside0.mk ho1; have HG1 := Aside0.mk hg1; clear ho1 hg1 hat1 hlt1)
      go_ret2
      have ho := HO1.out
      rw [Nat.zero_add, List.nil_append, RR.out] at ho
      refine ⟨g1, cap1, rfl, ho, ?_⟩
      exact (((Fr.refl (fun _ => False) w).drewN nq).alloc _).trans (Fr.of_grownBy HG1.out) (fun b hb => .inr (by
        have e : w.heap.size = b := by simpa [Value.ownBlock] using hb
        omega))
    | succ k1 =>
      have hi : i < N := by have := HI.out; omega
      have hi1 : (i : Int) < (N : Int) := by omega
      obtain ⟨p, q, gp, cap', hp, hq, hpq, epv, d1, d2⟩ := HAT.out.pend (i := i) (by rw [HN.out]; exact hi)
      injection epv with e1 e2 e3
      subst e1
      obtain ⟨lb, _, _, _, _, _, _, _, _, _, _, a11, a12, _⟩ := HAT.out
      obtain ⟨_, g2, _⟩ := a11.2 i p q hp hq
      have hp64 := (a12 p (List.mem_of_getElem? hp)).2.2
      obtain ⟨qn, qv⟩ := q
      dsimp only at d1 d2 hpq g2
      subst hpq
      obtain ⟨qb, qc, rfl⟩ : ∃ qb qc, qv = .slice (some ⟨qb, 0, none⟩) 64 qc := by
        rcases g2.2 with ⟨_, hz⟩ | ⟨qb, qc, cur, e, _⟩
        · omega
        · exact ⟨qb, qc, e⟩
      have HCS3 : Aside0 (∀ j u, (nums .u8 p.2)[j]? = some u → w.cell? ⟨qb, 0 + j, none⟩ = some u) := ⟨fun j u hu => by
        have := g2.cells (g := qb) rfl j u hu
        rwa [Addr.add_mid] at this⟩
      have HL3 : Aside0 (p.2.length = 64) := ⟨hp64⟩
      have HS3 : Aside0 (readC (k : Int) (D.c.drop (i + 1)) (if p.1 = (k : Int) then p.2 else cur) = readC (k : Int) D.c (D.f (k : Int))) := ⟨by rw [← HS.out, readC_drop _ _ _ _ hp]⟩
      have HI3 : Aside0 (i + 1 + k1 = N) := ⟨by have := HI.out; omega⟩
      clear hp hq e2 e3 a11 a12 g2 hp64
      by_cases hpn : p.1 = (k : Int)
      · rw [if_pos hpn] at HS3
        rw [hpn] at d1
        clear hpn
        go_wp2_with fail
        go_roundg k1
        case measure => omega
        case rel => exact ⟨i + 1, qb, 0, qc, p.2, rfl, by go_num, rfl, HI3, HL3, HCS3, HS3⟩
      · rw [if_neg hpn] at HS3
        have hpb : (p.1 == (k : Int)) = false := by simpa using hpn
        clear hpn
        go_wp2_with fail
        go_roundg k1
        case measure => omega
        case rel => exact ⟨i + 1, bk, o, c, cur, rfl, by go_num, rfl, HI3, HL2, HCS2, HS3⟩

set_option maxHeartbeats 4000000 in
set_option maxRecDepth 100000 in
theorem rpending_calls (r : Nat) (R : Nat → Prop) (D : DS) (w : World) (h : IsRef w R r D) (hc : D.c.length ≤ 1000000) :
    Calls Try.prog 41 #[.pointer (some ⟨r, 0, none⟩)] w fun e w' => ∃ v, e = .returned v ∧ w'.ownsRow w.heap.size 3 1 v D.c.length (nums .i64 (keysC D.c)) ∧ Fr (fun _ => False) w w' := by
  obtain ⟨lv, pv, qs, n, hat⟩ := h.at
  obtain ⟨⟨A, cap, hpv⟩, c1, f1, hlt⟩ := hat.pv
  obtain ⟨N, hN⟩ : ∃ N, D.c.length = N := ⟨_, rfl⟩
  have HN := Aside0.mk hN
  rw [hN] at hpv hc
  subst hpv
  have HAT := Aside0.mk hat
  have HF0 := Aside0.mk (Fr.refl (fun _ => False) w)
  clear hat f1 hN h c1
  go_enter Try.func41, Try.ntmps41
  go_wp2_with fail
  go_loopg [3, 4] N (fun kq v3 v4 w' => ∃ (i : Nat) (A3 : Option Addr) (c3 : Nat), v3 = .slice A3 i c3 ∧ v4 = .int .i64 (i : Int) ∧ Aside0 (i + kq = N) ∧ Aside0 (w'.ownsRow w.heap.size 3 1 (.slice A3 i c3) i (nums .i64 (keysC (D.c.take i)))) ∧ Aside0 (Fr (fun _ => False) w w'))
  case atStart => exact ⟨0, none, 0, rfl, rfl, ⟨by omega⟩, ⟨⟨rfl, .inl ⟨rfl, rfl⟩⟩⟩, HF0⟩
  case round =>
    clear HF0
    obtain ⟨i, A3, c3, rfl, rfl, HI, HO, HF⟩ := hrel
    have hat := HAT.out.fr HF.out (fun _ _ h => h)
    obtain ⟨_, c1, _, hlt2⟩ := hat.pv
    have hi0 : (0 : Int) ≤ (i : Int) := by omega
    cases gk with
    | zero =>
      have hi : i = N := by have := HI.out; omega
      subst hi
      clear hat
      go_wp2_with fail
      go_ret
      refine ⟨_, rfl, ?_, HF.out⟩
      have := HO.out
      rw [List.take_of_length_le (by rw [HN.out]; exact Nat.le_refl _)] at this
      rw [HN.out]
      exact this
    | succ k1 =>
      have hi : i < N := by have := HI.out; omega
      have hi1 : (i : Int) < (N : Int) := by omega
      obtain ⟨p, q, gp, cap', hp, hq, hpq, epv, d1, d2⟩ := hat.pend (i := i) (by rw [HN.out]; exact hi)
      injection epv with e1 e2 e3
      subst e1
      rw [hpq] at d1
      have HT : Aside0 (nums .i64 (keysC (D.c.take (i + 1))) = nums .i64 (keysC (D.c.take i)) ++ [.int .i64 p.1]) := ⟨by
        rw [List.take_add_one, hp]
        simp [keysC, nums]⟩
      have HI3 : Aside0 (i + 1 + k1 = N) := ⟨by have := HI.out; omega⟩
      have hone : ∀ u ∈ [Value.int .i64 p.1], u.oneCell' = true := fun u hu => by
        rw [List.mem_singleton.1 hu]
        rfl
      clear hp hq hpq e2 e3 hat d2
      go_wp2_with ((with_reducible refine gate_builtin (b := .append) (xs := #[.tmp 14, .tmp 23]) rfl ?_); at_builtin; refine wpList_append_own rfl (.tmp 14) (.tmp 23) 45 rfl w.heap.size 3 (.int .i64 0) 1 8 Try.underlying45 info3' rfl (by omega) (.slice A3 i c3) i (nums .i64 (keysC (D.c.take i))) rfl (ownsRow_kept HO.out (fun k e => (Below.heap_alloc _ _ _ (q_lt (q_of_own HO.out) k e)))) ⟨wr.heap.size, 0, none⟩ 1 1 [.int .i64 p.1] rfl rfl (World.news_of_block (cs := #[.int .i64 p.1]) (t := 3) (fr := (0, 0)) (heap_alloc_new _ _)) hone (by unfold maxLen; omega) (by omega) (by have := HF.out.size; simp; omega) ?_; intro v' w' h2 h3 h4; have H2 := Aside0.mk h2; have H3 := Aside0.mk h3; clear h2 h3 h4)
      obtain ⟨A4, c4, rfl, _⟩ := q_slice (q_of_own H2.out)
      have HO4 : Aside0 (w'.ownsRow w.heap.size 3 1 (.slice A4 (i + 1) c4) (i + 1) (nums .i64 (keysC (D.c.take (i + 1))))) := ⟨by rw [HT.out]; exact H2.out⟩
      have HF4 : Aside0 (Fr (fun _ => False) w w') := ⟨(HF.out.alloc _).trans (Fr.of_grownBy H3.out) (fun k h => .inr (q_typed (q_of_own HO.out) k h).1)⟩
      clear H2 H3
      go_roundg k1
      case measure => omega
      case rel => exact ⟨i + 1, A4, c4, rfl, by go_num, HI3, HO4, HF4⟩
end Go.Proofs.Ytppgbfkhiofjiaa.X

namespace Go.Proofs.Ytppgbfkhiofjiaa.X
open Go.RowKit Go.Proofs.YtppgbfkhiofjiaaW.PrintWords Go.Proofs.YtppgbfkhiofjiaaW.PrintLast Go.Proofs.YtppgbfkhiofjiaaW.PrintMore
set_option linter.unusedVariables false
set_option linter.unusedSimpArgs false

set_option maxHeartbeats 4000000 in
set_option maxRecDepth 100000 in
theorem sameInts_calls (A0 A1 : Option Addr) (c0 c1 : Nat) (l : List Int) (w : World) (h0 : Kd.C (Kd.int .i64) w A0 l.length l) (h1 : Kd.C (Kd.int .i64) w A1 l.length l) :
    Calls Try.prog 40 #[.slice A0 l.length c0, .slice A1 l.length c1] w fun e w' => e = .returned (.bool true) ∧ Drawn0 w w' := by
  have H0 := Aside0.mk h0
  have H1 := Aside0.mk h1
  have hmax : l.length ≤ 9223372036854775807 := h0.2.1
  obtain ⟨n, hn⟩ : ∃ n, l.length = n := ⟨_, rfl⟩
  rw [hn] at H0 H1 hmax ⊢
  clear h0 h1 hn
  go_enter Try.func40, Try.ntmps40
  go_wp2_with fail
  go_loopg [5] n (fun kq v5 w' => ∃ (i : Nat), v5 = .int .i64 (i : Int) ∧ Aside0 (i + kq = n) ∧ Aside0 (Drawn0 w w'))
  case atStart => exact ⟨0, rfl, ⟨by omega⟩, ⟨Drawn0.refl _⟩⟩
  case round =>
    obtain ⟨i, rfl, HI, HD⟩ := hrel
    obtain ⟨nq, rfl⟩ := HD.out.out
    have hi0 : (0 : Int) ≤ (i : Int) := by omega
    cases gk with
    | zero =>
      have hi : i = n := by have := HI.out; omega
      subst hi
      go_wp2_with fail
      go_ret
      exact ⟨rfl, HD.out⟩
    | succ k1 =>
      have hi1 : (i : Int) < (n : Int) := by have := HI.out; omega
      have hi : i < n := by omega
      have HI3 : Aside0 (i + 1 + k1 = n) := ⟨by have := HI.out; omega⟩
      obtain ⟨a0, rfl, x0⟩ := Kd.at_int H0.out (i : Int) hi0 hi1
      obtain ⟨a1, rfl, x1⟩ := Kd.at_int H1.out (i : Int) hi0 hi1
      rw [Int.toNat_natCast] at x0 x1
      generalize rd l (i : Int) = x at x0 x1
      have y0 : (w.drewN nq).cell? (a0.add i) = some (.int .i64 x) := x0
      have y1 : (w.drewN nq).cell? (a1.add i) = some (.int .i64 x) := x1
      go_wp2_with fail
      go_quiet (fail)
      go_wp2_with fail
      go_roundg k1
      case measure => omega
      case rel => exact ⟨i + 1, by go_num, HI3, ⟨⟨⟨_, rfl⟩⟩⟩⟩

theorem IsDisk.heapEq {w W : World} {B : Nat → Prop} {g : Nat} {D : DS} (h : IsDisk w B g D) (e : W.heap = w.heap) : IsDisk W B g D := h.move (by rw [e]; exact Nat.le_refl _) (fun k _ => by rw [e])
theorem IsRef.heapEq {w W : World} {R : Nat → Prop} {r : Nat} {D : DS} (h : IsRef w R r D) (e : W.heap = w.heap) : IsRef W R r D := h.move (by rw [e]; exact Nat.le_refl _) (fun k _ => by rw [e])
theorem ints_row {w : World} {base n : Nat} {v : Value} {xs : List Int} (h : w.ownsRow base 3 1 v n (nums .i64 xs)) : ∃ A c, v = .slice A n c ∧ Kd.C (Kd.int .i64) w A n xs := by
  obtain ⟨A, c, e, hr⟩ := own_reads_of (enc := Value.int .i64) (d := (0 : Int)) h
  exact ⟨A, c, e, Kd.C_of_reads (d := (0 : Int)) (h1 := fun _ => rfl) hr⟩

end Go.Proofs.Ytppgbfkhiofjiaa.X

