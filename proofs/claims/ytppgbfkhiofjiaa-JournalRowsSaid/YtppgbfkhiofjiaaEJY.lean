/-
  The journal: the contracts of finish and of Format.
  The journal: the contracts of Format and of the closures of commit.
  The journal: the contract of commit.
-/
import Derived.Test.YtppgbfkhiofjiaaEJX
import Derived.Deep.RegionHeld3
import Derived.IntWalk
import Derived.WalkSpells
namespace Go.Proofs.Ytppgbfkhiofjiaa.X
open Go.RowKit Go.Proofs.YtppgbfkhiofjiaaW.PrintWords Go.Proofs.YtppgbfkhiofjiaaW.PrintLast Go.Proofs.YtppgbfkhiofjiaaW.PrintMore Go.Proofs.Ytppgbfkhiofjiaa.Y
set_option linter.unusedVariables false
set_option linter.unusedSimpArgs false

def writesD : List (Int × List Int) → DS → Int × DS
  | [], D => (0, D)
  | p :: l, D => seqD (writeD D p.1 p.2) (writesD l)
def wr69 (l : List S102) : List (Int × List Int) := l.map fun x => (69 + x.f0, x.f1)
theorem JOk.writes : ∀ (l : List (Int × List Int)) {i : Nat} {D : DS} (_ : JOk i D), JOk (i + l.length) (writesD l D).2
  | [], i, D, h => h
  | p :: l, i, D, h => by
    have h1 := h.write p.1 p.2
    rw [List.length_cons, writesD]
    refine JOk.seq (j := 0) h1 (fun h2 => ?_) (by omega)
    have := JOk.writes l h2
    rwa [show i + (l.length + 1) = i + 1 + l.length by omega]
def finishD (l : List S102) (D : DS) : Int × DS := runD [writesD (wr69 l), flushD, laysD (headL 0 0)] D

/-- What is read in every world that keeps all but B lies in no block of B. -/
theorem stab_block {w : World} {B : Nat → Prop} {k : Nat} (P : World → Prop) (hP : ∀ W, Fr B w W → P W) (hr : ∀ W, P W → ∃ a v, a.block = k ∧ W.cell? a = some v) : ¬ B k := by
  intro hB
  obtain ⟨a0, v0, rfl, h0⟩ := hr w (hP w (Fr.refl _ _))
  have hk : a0.block < w.heap.size := World.block_lt_of_cell? w _ h0
  obtain ⟨a, v, e, h⟩ := hr { w with heap := w.heap.setIfInBounds a0.block (.map #[] 0) } (hP _ ⟨rfl, rfl, rfl, by simp, fun i hi hn => by
    have : a0.block ≠ i := by rintro rfl; exact hn hB
    simp [Array.getElem?_setIfInBounds, this]⟩)
  have hh : ({ w with heap := w.heap.setIfInBounds a0.block (.map #[] 0) } : World).heap[a0.block]? = some (.map #[] 0) := by simp [Array.getElem?_setIfInBounds, hk]
  simp [World.cell?, e, hh] at h
theorem add_block (a : Addr) (i : Nat) : (a.add i).block = a.block := by unfold Addr.add; split <;> rfl
theorem C_cell {α : Type} {d : Kd α} (hs : 0 < d.sz) {W : World} {ad : Addr} {n : Nat} {xs : List α} (h : d.C W (some ad) n xs) (h0 : 0 < n) : ∃ a v, a.block = ad.block ∧ W.cell? a = some v := by
  obtain ⟨e1, _, h2⟩ := h
  obtain ⟨ad', e, hc⟩ := h2 h0
  injection e with e
  subst e
  obtain ⟨c, hl, _, hcell⟩ := hc 0 _ (List.getElem?_eq_getElem (by omega))
  exact ⟨_, _, add_block _ _, hcell 0 _ (List.getElem?_eq_getElem (by omega))⟩
theorem stab_C {α : Type} {d : Kd α} (hs : 0 < d.sz) {w : World} {B : Nat → Prop} {A : Option Addr} {n : Nat} {xs : List α} (h : ∀ W, Fr B w W → d.C W A n xs) : ∀ ad, A = some ad → 0 < n → ¬ B ad.block := by
  rintro ad rfl h0
  exact stab_block (fun W => d.C W (some ad) n xs) h (fun W hW => C_cell hs hW h0)
theorem lt_C {α : Type} {d : Kd α} (hs : 0 < d.sz) {w : World} {A : Option Addr} {n : Nat} {xs : List α} (h : d.C w A n xs) : ∀ ad, A = some ad → 0 < n → ad.block < w.heap.size := by
  rintro ad rfl h0
  obtain ⟨a, v, e, hv⟩ := C_cell hs h h0
  have := World.block_lt_of_cell? w _ hv
  omega
/-- A stable list of writes, at one place: its cells, and its bytes, stable too. -/
theorem stab_102 {w : World} {B : Nat → Prop} {A : Option Addr} {n : Nat} {l : List S102} (hn : l.length = n) (h : ∀ W, Fr B w W → Kd.C k102 W A n l) {W : World} {B' : Nat → Prop} (f : Fr B w W) (hs : ∀ k, B' k → B k ∨ w.heap.size ≤ k) {i : Nat} {x : S102} (hx : l[i]? = some x) :
    ∃ ad A1 c1, A = some ad ∧ W.cell? (ad.add (i * 2)) = some (.int .i64 x.f0) ∧ W.cell? ⟨(ad.add (i * 2)).block, (ad.add (i * 2)).off + 1, none⟩ = some (.slice A1 x.f1.length c1) ∧ x.f1.length ≤ c1 ∧
      ∀ W', Fr B' W W' → Kd.C (Kd.int .u8) W' A1 x.f1.length x.f1 := by
  obtain ⟨hi, hget⟩ := List.getElem?_eq_some_iff.1 hx
  have key : ∀ W, Fr B w W → ∃ ad A1 c1, A = some ad ∧ W.cell? (ad.add (i * 2)) = some (.int .i64 x.f0) ∧ W.cell? ⟨(ad.add (i * 2)).block, (ad.add (i * 2)).off + 1, none⟩ = some (.slice A1 x.f1.length c1) ∧ x.f1.length ≤ c1 ∧ Kd.C (Kd.int .u8) W A1 x.f1.length x.f1 := by
    intro W f
    obtain ⟨ad, A1, c1, e, g1, g2, g3, g4⟩ := at_T102 (h W f) (i : Int) (by omega) (by omega)
    have hr : rd_T102 l (i : Int) = x := by
      unfold rd_T102
      rw [Int.toNat_natCast, List.getD_eq_getElem?_getD, hx]
      rfl
    rw [hr, Int.toNat_natCast] at g1
    rw [hr, Int.toNat_natCast] at g2
    rw [hr] at g3 g4
    exact ⟨ad, A1, c1, e, g1, g2, g3, g4⟩
  obtain ⟨ad, A1, c1, e, g1, g2, g3, g4⟩ := key W f
  refine ⟨ad, A1, c1, e, g1, g2, g3, fun W' f' => ?_⟩
  have hb : ¬ B ad.block := stab_C (d := k102) (by decide) h ad e (by omega)
  have hlt : ad.block < w.heap.size := lt_C (d := k102) (by decide) (h w (Fr.refl _ _)) ad e (by omega)
  have hb' : ¬ B' ad.block := fun hB => (hs _ hB).elim hb (fun hge => by omega)
  obtain ⟨ad', A1', c1', e', g1', g2', g3', g4'⟩ := key W' (f.trans f' hs)
  rw [e] at e'
  injection e' with e'
  subst e'
  have := cellB f' (a := ⟨(ad.add (i * 2)).block, (ad.add (i * 2)).off + 1, none⟩) (by rw [add_block]; exact hb') g2
  rw [this] at g2'
  injection g2' with g2'
  injection g2' with g2' _ _
  subst g2'
  exact g4'

set_option maxHeartbeats 4000000 in
set_option maxRecDepth 100000 in
theorem fin1_calls (g : Nat) (B : Nat → Prop) (D : DS) (A : Option Addr) (cp n : Nat) (l : List S102) (n0 n1 : Nat) (w : World) (i : Nat) (h : IsDisk w B g D) (ho : JOk i D) (hi : i + n ≤ 500000) (hn : l.length = n)
    (c0 : w.cell? ⟨n0, 0, none⟩ = some (.slice A n cp)) (c1 : w.cell? ⟨n1, 0, none⟩ = some (.pointer (some ⟨g, 0, none⟩))) (b1 : ¬ B n1) (hl : ∀ W, Fr B w W → Kd.C k102 W A n l) (hr : ∀ x ∈ l, 0 ≤ x.f0 ∧ x.f0 ≤ 1000000) :
    Calls Try.prog 82 #[.pointer (some ⟨n0, 0, none⟩), .pointer (some ⟨n1, 0, none⟩)] w fun e w' => e = .returned (.int .i64 (writesD (wr69 l) D).1) ∧ Moved w B g w' (writesD (wr69 l) D).2 := by
  have HN := Aside0.mk hn
  have HL := Aside0.mk hl
  have HR := Aside0.mk hr
  have H0 : Aside0 (∃ D', Moved w B g w D' ∧ JOk (i + 0) D' ∧ writesD (wr69 l) D = writesD (wr69 (l.drop 0)) D') := ⟨⟨D, Moved.refl h, ho, by rw [List.drop_zero]⟩⟩
  have HI0 := Aside0.mk hi
  have hn5 : n ≤ 500000 := by omega
  have C1 := Aside0.mk c1
  clear hl hr hn h ho hi c1
  go_enter Try.func82, Try.ntmps82
  go_wp2_with fail
  go_loopg [8] n (fun kq v8 w' => ∃ (k : Nat), v8 = .int .i64 (k : Int) ∧ Aside0 (k + kq = n) ∧ Aside0 (∃ D', Moved w B g w' D' ∧ JOk (i + k) D' ∧ writesD (wr69 l) D = writesD (wr69 (l.drop k)) D'))
  case atStart => exact ⟨0, rfl, ⟨by omega⟩, H0⟩
  case round =>
    clear H0
    obtain ⟨k, rfl, HI, H1⟩ := hrel
    have hk0 : (0 : Int) ≤ (k : Int) := by omega
    cases gk with
    | zero =>
      have hk : k = n := by have := HI.out; omega
      subst hk
      go_wp2_with fail
      go_ret
      obtain ⟨D', m, _, e⟩ := H1.out
      rw [List.drop_eq_nil_of_le (by rw [HN.out]; omega)] at e
      rw [e]
      exact ⟨rfl, m⟩
    | succ k1 =>
      have hk1 : (k : Int) < (n : Int) := by have := HI.out; omega
      have HI3 : Aside0 (k + 1 + k1 = n) := ⟨by have := HI.out; omega⟩
      obtain ⟨x, hx⟩ : ∃ x, l[k]? = some x := ⟨_, List.getElem?_eq_getElem (by rw [HN.out]; omega)⟩
      obtain ⟨D', ⟨B', h', hs', f'⟩, ho', he'⟩ := H1.out
      obtain ⟨ad, A1, cap1, rfl, g1, g2, g3, g4⟩ := stab_102 HN.out HL.out f' hs' hx
      obtain ⟨r1, r2⟩ := HR.out x (List.mem_of_getElem? hx)
      have hc1 := cellB f' b1 C1.out
      have hn1 : n1 < wr.heap.size := World.block_lt_of_cell? _ _ hc1
      have HE : Aside0 (writesD (wr69 (l.drop k)) D' = seqD (writeD D' (69 + x.f0) x.f1) (writesD (wr69 (l.drop (k + 1))))) := ⟨by
        obtain ⟨hlt, hget⟩ := List.getElem?_eq_some_iff.1 hx
        rw [List.drop_eq_getElem_cons hlt, hget]
        rfl⟩
      have HE' := Aside0.mk he'
      have HH := Aside0.mk h'
      have HS := Aside0.mk hs'
      have HF := Aside0.mk f'
      have HO := Aside0.mk ho'
      have G4 := Aside0.mk g4
      have G3 := Aside0.mk g3
      clear h' hs' f' ho' g4 g3 he' hx H1
      go_wp2_with fail
      have fa : Fr (fun _ => False) wr (wr.alloc (.cells #[.int .i64 x.f0, .slice A1 x.f1.length cap1] 102)) := (Fr.refl _ _).alloc _
      have WC := Aside0.mk (write_moved g B' D' (69 + x.f0) A1 cap1 x.f1 _ _ (HH.out.fr fa (fun _ _ h => h)) HO.out (by have := HI0.out; have := HI.out; omega) (WalkArith.wf_i64 (by omega)) (G4.out _ (fa.mono (fun _ h => h.elim))) G3.out (stab_C (d := Kd.int .u8) (by decide) G4.out))
      have FA := Aside0.mk fa
      clear fa
      refine WC.out.mono ?_
      rintro e w2 ⟨rfl, m⟩
      have M := Aside0.mk ((m.ahead FA.out).back HS.out HF.out)
      have HO2 := Aside0.mk (HO.out.write (69 + x.f0) x.f1)
      clear m WC FA
      obtain ⟨e0, he0⟩ : ∃ e0, (writeD D' (69 + x.f0) x.f1).1 = e0 := ⟨_, rfl⟩
      have HE0 := Aside0.mk he0
      rw [he0]
      clear he0
      by_cases hz : e0 = 0
      · subst hz
        have H2 : Aside0 (∃ D', Moved w B g w2 D' ∧ JOk (i + (k + 1)) D' ∧ writesD (wr69 l) D = writesD (wr69 (l.drop (k + 1))) D') := ⟨⟨_, M.out, HO2.out, by rw [HE'.out, HE.out, seqD, if_pos HE0.out]⟩⟩
        clear M HO2 HE HE' HE0
        go_wp2_with fail
        go_roundg k1
        case measure => omega
        case rel => exact ⟨k + 1, by go_num, HI3, H2⟩
      · have hq : Aside0 (writesD (wr69 l) D = writeD D' (69 + x.f0) x.f1) := ⟨by rw [HE'.out, HE.out, seqD, if_neg (by rw [HE0.out]; exact hz)]⟩
        have e1 : (e0 != 0) = true := by simpa using hz
        clear HE HE' HO2
        go_wp2_with fail
        go_ret
        rw [hq.out]
        exact ⟨by rw [HE0.out]; rfl, M.out⟩

set_option maxHeartbeats 4000000 in
set_option maxRecDepth 100000 in
theorem fin2_calls (g : Nat) (B : Nat → Prop) (D : DS) (n0 : Nat) (w : World) (i : Nat) (h : IsDisk w B g D) (ho : JOk i D) (hi : i ≤ 400000)
    (c0 : w.cell? ⟨n0, 0, none⟩ = some (.pointer (some ⟨g, 0, none⟩))) (b0 : ¬ B n0) :
    Calls Try.prog 83 #[.pointer (some ⟨n0, 0, none⟩)] w fun e w' => e = .returned (.int .i64 (laysD (headL 0 0) D).1) ∧ Moved w B g w' (laysD (headL 0 0) D).2 := by
  have LC : Aside0 (∀ (W : World) (f : Fr (fun _ => False) w W), Calls Try.prog 62 #[.int .i64 0, .int .u32 0] W fun e w' => ∃ A c, e = .returned (.slice A 64 c) ∧ Fr (fun _ => False) W w' ∧ ∀ W2, w'.heap = W2.heap → Fr (fun _ => False) w W2 → Calls Try.prog 65 #[.pointer (some ⟨g, 0, none⟩), .slice A 64 c] W2 fun e w'' => e = .returned (.int .i64 (laysD (headL 0 0) D).1) ∧ Moved w B g w'' (laysD (headL 0 0) D).2) := ⟨fun W f => by
    refine (head_calls 0 0 W ⟨by omega, by omega⟩).mono ?_
    rintro e w' ⟨A, c, rfl, hr, hb⟩
    refine ⟨A, c, rfl, Fr.of_below hb _, fun W2 e2 f2 => ?_⟩
    have hlt := h.lt
    obtain ⟨A', c', e', hcap, _⟩ := Kd.R_reads hr
    have hl64 : (headL 0 0).length = 64 := rfl
    rw [hl64] at e' hcap
    injection e' with e1 _ e2'
    subst e1 e2'
    have hne : ∀ k, B k → ∀ j, W.heap.size ≤ j → k ≠ j := fun k hk j hj => by have := hlt k hk; have := f.size; omega
    have hst : ∀ W', Fr B W2 W' → Kd.C (Kd.int .u8) W' A 64 (headL 0 0) := fun W' f' => by
      have h1 : Kd.R (Kd.int .u8) 5 w' W.heap.size (fun k => W.heap.size ≤ k) (.slice A 64 c) (headL 0 0) := Kd.R_mono (Kd.R_bound hr) (fun k hk => hk.2.1)
      have h2 : Kd.R (Kd.int .u8) 5 W' W.heap.size (fun k => W.heap.size ≤ k) (.slice A 64 c) (headL 0 0) := Kd.R_step h1 (fun k hk hk2 => by
        rw [f'.keep k (by rw [← e2]; exact hk2) (fun hB => hne k hB k hk rfl), e2])
      obtain ⟨A', c', e', _, hC⟩ := Kd.R_reads h2
      injection e' with e1 _ _
      subst e1
      exact hC
    exact (lays_calls g B D A c (headL 0 0) W2 i (h.fr f2 (fun _ _ h => h)) ho hi rfl hst hcap (fun ad e => stab_C (d := Kd.int .u8) (by decide) hst ad e (by omega))).mono fun e w'' ⟨he, m⟩ => ⟨he, m.ahead f2⟩⟩
  have h0 : n0 < w.heap.size := World.block_lt_of_cell? _ _ c0
  clear h ho hi
  go_enter Try.func83, Try.ntmps83
  go_wp2_with fail
  have C0 := Aside0.mk c0
  go_region_held3 (fun W => W.cell? ⟨n0, 0, none⟩ = some (.pointer (some ⟨g, 0, none⟩))) (first | exact C0.out | exact S4.out | exact S5.out) (first
    | (go_at_call 62; refine (LC.out _ (Fr.refl _ _).drew).mono ?_; rintro e w4 ⟨A, c, rfl, hf4, hc4⟩; have S4 := Aside0.mk (cellK hf4 C0.out); have H65 := Aside0.mk (hc4 w4 rfl ((Fr.refl (fun _ => False) w).trans ⟨hf4.os, hf4.tape, hf4.output, hf4.size, hf4.keep⟩ (fun _ h => h.elim))); clear hf4 hc4)
    | (go_at_call 65; refine H65.out.mono ?_; rintro e w5 ⟨rfl, m⟩; have M := Aside0.mk m; have S5 := Aside0.mk (cellB m.fr b0 C0.out); clear m))
  all_goals (
    go_wp2_with fail
    go_ret
    exact ⟨rfl, M.out⟩)
theorem wr69_length (l : List S102) : (wr69 l).length = l.length := by simp [wr69]
theorem JOk.finish {i : Nat} {D : DS} (h : JOk i D) (l : List S102) : JOk (i + l.length + 3) (finishD l D).2 := by
  have h1 := JOk.writes (wr69 l) h
  rw [wr69_length] at h1
  exact JOk.seq (j := 0) h1 (fun h1 => JOk.seq (j := 0) h1.flush (fun h2 => JOk.seq (j := 0) (JOk.lays h2 _) (fun h3 => h3) (Nat.le_refl _)) (by omega)) (by omega)

def finB (i n : Nat) : Nat → Nat
  | 0 => i
  | 1 => i + n
  | k + 2 => i + n + 1 + 2 * k
theorem fin_row (g : Nat) (B : Nat → Prop) (D : DS) (A : Option Addr) (cp n : Nat) (l : List S102) (n0 n1 n2 c : Nat) (W : World) (i : Nat) (h : IsDisk W B g D) (ho : JOk i D) (hi : i + n ≤ 300000) (hn : l.length = n)
    (c0 : W.cell? ⟨n0, 0, none⟩ = some (.pointer (some ⟨g, 0, none⟩))) (c1 : W.cell? ⟨n1, 0, none⟩ = some (.slice A n cp)) (b0 : ¬ B n0) (b1 : ¬ B n1) (b2 : ¬ B n2)
    (d0 : W.cell? ⟨n2, 0, none⟩ = some (.func (.func 82) #[] #[.pointer (some ⟨n1, 0, none⟩), .pointer (some ⟨n0, 0, none⟩)])) (d1 : W.cell? ⟨n2, 1, none⟩ = some (.func (.func 15) #[.pointer (some ⟨g, 0, none⟩)] #[])) (d2 : W.cell? ⟨n2, 2, none⟩ = some (.func (.func 83) #[] #[.pointer (some ⟨n0, 0, none⟩)]))
    (hl : ∀ W', Fr B W W' → Kd.C k102 W' A n l) (hr : ∀ x ∈ l, 0 ≤ x.f0 ∧ x.f0 ≤ 1000000) :
    Calls Try.prog 78 #[.slice (some ⟨n2, 0, none⟩) 3 c] W fun e w' => e = .returned (.int .i64 (finishD l D).1) ∧ Moved W B g w' (finishD l D).2 := by
  have hlt0 : n0 < W.heap.size := World.block_lt_of_cell? _ _ c0
  have hlt1 : n1 < W.heap.size := World.block_lt_of_cell? _ _ c1
  refine row_disk [(⟨82, #[], #[.pointer (some ⟨n1, 0, none⟩), .pointer (some ⟨n0, 0, none⟩)]⟩, writesD (wr69 l)), (⟨15, #[.pointer (some ⟨g, 0, none⟩)], #[]⟩, flushD), (⟨83, #[], #[.pointer (some ⟨n0, 0, none⟩)]⟩, laysD (headL 0 0))] 3 rfl (by omega) ⟨n2, 0, none⟩ c W B g D (fun k D => JOk (finB i n k) D) ?_ b2 ?_ ?_ ?_ h ho
  · intro j s hs
    match j, hs with
    | 0, hs => obtain rfl := Option.some.inj hs; exact d0
    | 1, hs => obtain rfl := Option.some.inj hs; exact d1
    | 2, hs => obtain rfl := Option.some.inj hs; exact d2
  · intro j s hs
    match j, hs with
    | 0, hs => obtain rfl := Option.some.inj hs; exact ent82
    | 1, hs => obtain rfl := Option.some.inj hs; exact ent15
    | 2, hs => obtain rfl := Option.some.inj hs; exact ent83
  · intro j s W' D' hs hI m
    obtain ⟨B', h', hs', f'⟩ := m
    have nb : ∀ k, k < W.heap.size → ¬ B k → ¬ B' k := fun k hk hn hB' => (hs' k hB').elim hn (fun h => by omega)
    match j, hs with
    | 0, hs =>
      obtain rfl := Option.some.inj hs
      exact (fin1_calls g B' D' A cp n l n1 n0 W' i h' hI (by omega) hn (cellB f' b1 c1) (cellB f' b0 c0) (nb _ hlt0 b0) (fun W'' f'' => hl W'' (f'.trans f'' hs')) hr).mono fun e w' ⟨he, m'⟩ => ⟨he, m'.back hs' f'⟩
    | 1, hs =>
      obtain rfl := Option.some.inj hs
      exact (flush_moved g B' D' W' (i + n) h' hI (by omega)).mono fun e w' ⟨he, m'⟩ => ⟨he, m'.back hs' f'⟩
    | 2, hs =>
      obtain rfl := Option.some.inj hs
      exact (fin2_calls g B' D' n0 W' (i + n + 1 + 2 * 0) h' hI (by omega) (cellB f' b0 c0) (nb _ hlt0 b0)).mono fun e w' ⟨he, m'⟩ => ⟨he, m'.back hs' f'⟩
  · intro j s D' hs hI
    match j, hs with
    | 0, hs =>
      obtain rfl := Option.some.inj hs
      have := JOk.writes (wr69 l) hI
      rw [wr69_length, hn] at this
      exact this
    | 1, hs => obtain rfl := Option.some.inj hs; exact (JOk.flush (i := i + n) hI).mono (by show _ ≤ i + n + 1 + 2 * 0; omega)
    | 2, hs => obtain rfl := Option.some.inj hs; exact (JOk.lays (i := i + n + 1 + 2 * 0) hI _).mono (by show _ ≤ i + n + 1 + 2 * 1; omega)

set_option maxHeartbeats 4000000 in
set_option maxRecDepth 100000 in
theorem finish_calls (g : Nat) (B : Nat → Prop) (D : DS) (A : Option Addr) (cp n : Nat) (l : List S102) (w : World) (i : Nat) (h : IsDisk w B g D) (ho : JOk i D) (hi : i + n ≤ 300000) (hn : l.length = n)
    (hl : ∀ W', Fr B w W' → Kd.C k102 W' A n l) (hr : ∀ x ∈ l, 0 ≤ x.f0 ∧ x.f0 ≤ 1000000) :
    Calls Try.prog 64 #[.pointer (some ⟨g, 0, none⟩), .slice A n cp] w fun e w' => e = .returned (.int .i64 (finishD l D).1) ∧ Moved w B g w' (finishD l D).2 := by
  have H := Aside0.mk h
  have HO := Aside0.mk ho
  have HL := Aside0.mk hl
  have HR := Aside0.mk hr
  have HN := Aside0.mk hn
  clear h ho hl hr hn
  go_enter Try.func64, Try.ntmps64
  go_wp2_with fail
  have f3 : Fr (fun _ => False) w (((w.alloc (.cells #[.pointer (some ⟨g, 0, none⟩)] 29)).alloc (.cells #[.slice A n cp] 60)).alloc (.cells #[.func (.func 82) #[] #[.pointer (some ⟨w.heap.size + 1, 0, none⟩), .pointer (some ⟨w.heap.size, 0, none⟩)], .func (.func 15) #[.pointer (some ⟨g, 0, none⟩)] #[], .func (.func 83) #[] #[.pointer (some ⟨w.heap.size, 0, none⟩)]] 38)) := (((Fr.refl _ _).alloc _).alloc _).alloc _
  have hc := alloc3_cells (w := w) #[.pointer (some ⟨g, 0, none⟩)] #[.slice A n cp] #[.func (.func 82) #[] #[.pointer (some ⟨w.heap.size + 1, 0, none⟩), .pointer (some ⟨w.heap.size, 0, none⟩)], .func (.func 15) #[.pointer (some ⟨g, 0, none⟩)] #[], .func (.func 83) #[] #[.pointer (some ⟨w.heap.size, 0, none⟩)]] 29 60 38
  have hnB : ∀ k, w.heap.size ≤ k → ¬ B k := fun k hk h => by have := H.out.lt k h; omega
  have RC := Aside0.mk (fin_row g B D A cp n l w.heap.size (w.heap.size + 1) (w.heap.size + 1 + 1) 3 _ i (H.out.fr f3 (fun _ _ h => h)) HO.out hi HN.out (hc 0).1 (hc 0).2.1 (hnB _ (Nat.le_refl _)) (hnB _ (by omega)) (hnB _ (by omega)) (hc 0).2.2 (hc 1).2.2 (hc 2).2.2
    (fun W' f' => HL.out W' ((f3.mono (fun _ h => h.elim)).trans f' (fun _ h => .inl h))) HR.out)
  have F3 := Aside0.mk f3
  clear hc f3 hnB
  refine RC.out.mono ?_
  rintro e w' ⟨rfl, m⟩
  have M := Aside0.mk (m.ahead F3.out)
  clear m RC F3
  go_wp2_with fail
  go_ret
  exact ⟨rfl, M.out⟩
end Go.Proofs.Ytppgbfkhiofjiaa.X

namespace Go.Proofs.Ytppgbfkhiofjiaa.X
open Go.RowKit Go.Proofs.YtppgbfkhiofjiaaW.PrintWords Go.Proofs.YtppgbfkhiofjiaaW.PrintLast Go.Proofs.YtppgbfkhiofjiaaW.PrintMore Go.Proofs.Ytppgbfkhiofjiaa.Y
set_option linter.unusedVariables false
set_option linter.unusedSimpArgs false

/-- Bytes of the call's own stay readable while a disk goes on. -/
theorem own_stable {W0 W2 : World} {B : Nat → Prop} {base : Nat} {A : Option Addr} {n c : Nat} {l : List Int} (hr : Kd.R (Kd.int .u8) 5 W2 base (fun _ => True) (.slice A n c) l) (hn : l.length = n) (hB : ∀ k, B k → k < base) :
    n ≤ c ∧ ∀ W', Fr B W2 W' → Kd.C (Kd.int .u8) W' A n l := by
  obtain ⟨A', c', e', hcap, _⟩ := Kd.R_reads hr
  injection e' with e1 e2 e3
  subst e1 e3
  refine ⟨by omega, fun W' f' => ?_⟩
  have h1 : Kd.R (Kd.int .u8) 5 W2 base (fun k => base ≤ k) (.slice A n c) l := Kd.R_mono (Kd.R_bound hr) (fun k hk => hk.2.1)
  have h2 : Kd.R (Kd.int .u8) 5 W' base (fun k => base ≤ k) (.slice A n c) l := Kd.R_step h1 (fun k hk hk2 => f'.keep k hk2 (fun h => by have := hB k h; omega))
  obtain ⟨A'', c'', e'', _, hC⟩ := Kd.R_reads h2
  injection e'' with e1 _ _
  subst e1
  rw [hn] at hC
  exact hC

/-- A head, then lays with it. -/
theorem head_lays (a s : Int) (ha : 0 ≤ a ∧ a < 4294967296) (g : Nat) (B : Nat → Prop) (D : DS) (W : World) (i : Nat) (h : IsDisk W B g D) (ho : JOk i D) (hi : i ≤ 400000) :
    Calls Try.prog 62 #[.int .i64 a, .int .u32 s] W fun e w' => ∃ A c, e = .returned (.slice A 64 c) ∧ Fr (fun _ => False) W w' ∧
      Calls Try.prog 65 #[.pointer (some ⟨g, 0, none⟩), .slice A 64 c] w' fun e w'' => e = .returned (.int .i64 (laysD (headL a s) D).1) ∧ Moved W B g w'' (laysD (headL a s) D).2 := by
  refine (head_calls a s W ha).mono ?_
  rintro e w' ⟨A, c, rfl, hr, hb⟩
  have f : Fr (fun _ => False) W w' := Fr.of_below hb _
  obtain ⟨hcap, hst⟩ := own_stable (W0 := W) hr (headL_length a s) h.lt
  exact ⟨A, c, rfl, f, (lays_calls g B D A c (headL a s) w' i (h.fr f (fun _ _ h => h)) ho hi rfl hst hcap (fun ad e => stab_C (d := Kd.int .u8) (by decide) hst ad e (by omega))).mono fun e w'' ⟨he, m⟩ => ⟨he, m.ahead f⟩⟩

set_option maxHeartbeats 4000000 in
set_option maxRecDepth 100000 in
theorem sect_calls (g : Nat) (B : Nat → Prop) (D : DS) (w : World) (h : IsDisk w B g D) :
    Calls Try.prog 53 #[.pointer (some ⟨g, 0, none⟩)] w fun e w' => e = .returned (.int .i64 D.n) ∧ w' = w := by
  obtain ⟨m, cv, c0, c1, c2, c3, c4, c5, cf, hlt, _⟩ := h.cells
  clear c1 c2 c3 c4 c5 cf h
  go_enter Try.func53, Try.ntmps53
  go_wp2_with fail
  go_ret
  exact ⟨rfl, rfl⟩

set_option maxHeartbeats 4000000 in
set_option maxRecDepth 100000 in
theorem small_calls (g : Nat) (B : Nat → Prop) (D : DS) (w : World) (h : IsDisk w B g D) :
    Calls Try.prog 59 #[.pointer (some ⟨g, 0, none⟩)] w fun e w' => e = .returned (.bool (decide (D.n ≤ 69))) ∧ w' = w := by
  have SC := Aside0.mk (sect_calls g B D w h)
  clear h
  go_enter Try.func59, Try.ntmps59
  go_wp2_with fail
  refine SC.out.mono ?_
  rintro e w' ⟨rfl, rfl⟩
  go_wp2_with fail
  go_ret
  exact ⟨rfl, rfl⟩

def formatD (D : DS) : Int × DS := if D.n ≤ 69 then (2, D) else laysD (headL 0 0) D
set_option maxHeartbeats 4000000 in
set_option maxRecDepth 100000 in
theorem format_calls (g : Nat) (B : Nat → Prop) (D : DS) (w : World) (i : Nat) (h : IsDisk w B g D) (ho : JOk i D) (hi : i ≤ 400000) :
    Calls Try.prog 34 #[.pointer (some ⟨g, 0, none⟩)] w fun e w' => e = .returned (.int .i64 (formatD D).1) ∧ Moved w B g w' (formatD D).2 := by
  have SC := Aside0.mk (small_calls g B D w h)
  have HC := Aside0.mk (head_lays 0 0 ⟨by omega, by omega⟩ g B D w i h ho hi)
  by_cases hn : D.n ≤ 69
  · have hd : decide (D.n ≤ 69) = true := by simpa using hn
    rw [hd] at SC
    have HR : Aside0 (formatD D = (2, D)) := ⟨by unfold formatD; rw [if_pos hn]⟩
    have M := Aside0.mk (Moved.refl h)
    clear h ho hn hd HC
    go_enter Try.func34, Try.ntmps34
    go_wp2_with fail
    refine SC.out.mono ?_
    rintro e w' ⟨rfl, rfl⟩
    go_wp2_with fail
    go_ret
    rw [HR.out]
    exact ⟨rfl, M.out⟩
  · have hd : decide (D.n ≤ 69) = false := by simpa using hn
    rw [hd] at SC
    have HR : Aside0 (formatD D = laysD (headL 0 0) D) := ⟨by unfold formatD; rw [if_neg hn]⟩
    clear h ho hn hd
    go_enter Try.func34, Try.ntmps34
    go_wp2_with fail
    refine SC.out.mono ?_
    rintro e w' ⟨rfl, rfl⟩
    go_wp2_with fail
    refine HC.out.mono ?_
    rintro e w1 ⟨A, c, rfl, _, hc⟩
    have LC := Aside0.mk hc
    clear hc
    go_wp2_with fail
    refine LC.out.mono ?_
    rintro e w2 ⟨rfl, m⟩
    have M := Aside0.mk m
    clear m
    go_wp2_with fail
    go_ret
    rw [HR.out]
    exact ⟨rfl, M.out⟩

/-! ### The closures of commit -/
def chunkD (a : Int) : Nat → List Int → List (Int × List Int)
  | 0, _ => []
  | n + 1, L => (a, L.take 64) :: chunkD (a + 1) n (L.drop 64)
theorem chunkD_length (a : Int) : ∀ (n : Nat) (L : List Int), (chunkD a n L).length = n
  | 0, _ => rfl
  | n + 1, L => by rw [chunkD, List.length_cons, chunkD_length]
/-- A journal in memory: its disk, and whether it is down. -/
def IsLog (w : World) (lb g : Nat) (dn : Bool) : Prop := w.heap[lb]? = some (.cells #[.pointer (some ⟨g, 0, none⟩), .bool dn] 104 (0, 0))
theorem IsLog.kept {w w' : World} {lb g : Nat} {dn : Bool} (h : IsLog w lb g dn) (hk : w'.heap[lb]? = w.heap[lb]?) : IsLog w' lb g dn := hk.trans h
theorem IsLog.lt {w : World} {lb g : Nat} {dn : Bool} (h : IsLog w lb g dn) : lb < w.heap.size := (Array.getElem?_eq_some_iff.1 h).1
theorem IsLog.cells {w : World} {lb g : Nat} {dn : Bool} (h : IsLog w lb g dn) : w.cell? ⟨lb, 0, none⟩ = some (.pointer (some ⟨g, 0, none⟩)) ∧ w.cell? ⟨lb, 1, none⟩ = some (.bool dn) ∧ w.frozen? ⟨lb, 1, none⟩ = false := by
  refine ⟨?_, ?_, frozen_of_row w lb 1 _ 104 h⟩ <;> rw [cell_of_row w lb _ _ 104 (0, 0) h] <;> rfl

theorem cut64 (A : Addr) (m cp k : Nat) (hk : k * 64 + 64 ≤ cp) (W : World) :
    (Instr.slice 22 (.slice (some A) m cp) (some (.int .i64 ((k : Int) * 64))) (some (.int .i64 ((k : Int) * 64 + 64))) none).run Try.prog W = .ok (.slice (some (A.add (k * 64))) 64 (cp - k * 64)) W := by
  have hel : Try.prog.elem 22 = 5 := by simp [Program.elem, Try.underlying22]
  have hu : Try.prog.underlying 22 = some (.slice (Try.prog.elem 22)) := by rw [hel]; exact Try.underlying22
  obtain ⟨i0, hi0, hzz⟩ := Option.map_eq_some_iff.1 info5
  simp only [Prod.mk.injEq] at hzz
  rw [run_slice_lh W 22 (some A) m cp hu .i64 .i64 _ _ (by omega) (by omega) (by omega), hel]
  have e1 : ((k : Int) * 64).toNat = k * 64 := by omega
  have e2 : ((k : Int) * 64 + 64).toNat = k * 64 + 64 := by omega
  have e3 : ¬ cp = k * 64 := by omega
  have e4 : k * 64 + 64 - k * 64 = 64 := by omega
  simp [sizeOf, typeInfo, hi0, hzz.2.1, sliced, Result.andThen, e1, e2, e3, e4]

set_option maxHeartbeats 4000000 in
set_option maxRecDepth 100000 in
theorem lay_calls (g : Nat) (B : Nat → Prop) (D : DS) (A : Addr) (cp n : Nat) (at0 : Int) (L : List Int) (n0 n1 n2 lb : Nat) (w : World) (i : Nat) (h : IsDisk w B g D) (ho : JOk i D) (hi : i + n ≤ 400000) (hn : L.length = n * 64) (hat : 0 ≤ at0 ∧ at0 ≤ 1000) (hcp : n * 64 ≤ cp)
    (c0 : w.cell? ⟨n0, 0, none⟩ = some (.slice (some A) (n * 64) cp)) (c1 : w.cell? ⟨n1, 0, none⟩ = some (.pointer (some ⟨lb, 0, none⟩))) (c2 : w.cell? ⟨n2, 0, none⟩ = some (.int .i64 at0)) (c3 : w.cell? ⟨lb, 0, none⟩ = some (.pointer (some ⟨g, 0, none⟩)))
    (b0 : ¬ B n0) (b1 : ¬ B n1) (b2 : ¬ B n2) (b3 : ¬ B lb) (hl : ∀ W', Fr B w W' → Kd.C (Kd.int .u8) W' (some A) (n * 64) L) :
    Calls Try.prog 77 #[.pointer (some ⟨n0, 0, none⟩), .pointer (some ⟨n1, 0, none⟩), .pointer (some ⟨n2, 0, none⟩)] w fun e w' => e = .returned (.int .i64 (writesD (chunkD at0 n L) D).1) ∧ Moved w B g w' (writesD (chunkD at0 n L) D).2 := by
  have HN := Aside0.mk hn
  have HL := Aside0.mk hl
  have H0 : Aside0 (∃ D', Moved w B g w D' ∧ JOk (i + 0) D' ∧ writesD (chunkD at0 n L) D = writesD (chunkD (at0 + (0 : Nat)) (n - 0) (L.drop (0 * 64))) D') := ⟨⟨D, Moved.refl h, ho, by simp⟩⟩
  have HI0 := Aside0.mk hi
  have hn5 : n ≤ 400000 := by omega
  have C0 := Aside0.mk c0
  have C1 := Aside0.mk c1
  have C2 := Aside0.mk c2
  have C3 := Aside0.mk c3
  clear hl hn h ho hi c0 c1 c2 c3
  go_enter Try.func77, Try.ntmps77
  go_wp2_with fail
  go_loopg [4] n (fun kq v4 w' => ∃ (k : Nat), v4 = .int .i64 ((k : Int) * 64) ∧ Aside0 (k + kq = n) ∧ Aside0 (∃ D', Moved w B g w' D' ∧ JOk (i + k) D' ∧ writesD (chunkD at0 n L) D = writesD (chunkD (at0 + (k : Nat)) (n - k) (L.drop (k * 64))) D'))
  case atStart => exact ⟨0, rfl, ⟨by omega⟩, H0⟩
  case round =>
    clear H0
    obtain ⟨k, rfl, HI, H1⟩ := hrel
    have hk0 : (0 : Int) ≤ (k : Int) := by omega
    obtain ⟨D', ⟨B', h', hs', f'⟩, ho', he'⟩ := H1.out
    have g0 := cellB f' b0 C0.out
    have g1 := cellB f' b1 C1.out
    have g2 := cellB f' b2 C2.out
    have g3 := cellB f' b3 C3.out
    cases gk with
    | zero =>
      have hk : k = n := by have := HI.out; omega
      subst hk
      have he2 : writesD (chunkD at0 k L) D = (0, D') := by rw [he', Nat.sub_self]; rfl
      have M := Aside0.mk (⟨B', h', hs', f'⟩ : Moved w B g wr D')
      have HE2 := Aside0.mk he2
      clear h' hs' f' ho' he' he2 H1
      go_wp2_with fail
      go_ret
      rw [HE2.out]
      exact ⟨rfl, M.out⟩
    | succ k1 =>
      have hk1 : (k : Int) + 1 ≤ (n : Int) := by have := HI.out; omega
      have hk2 : k < n := by omega
      have HI3 : Aside0 (k + 1 + k1 = n) := ⟨by have := HI.out; omega⟩
      have HE' := Aside0.mk he'
      have HH := Aside0.mk h'
      have HS := Aside0.mk hs'
      have HF := Aside0.mk f'
      have HO := Aside0.mk ho'
      clear h' hs' f' ho' he' H1
      obtain ⟨Lk, hLk⟩ : ∃ Lk, (L.drop (k * 64)).take 64 = Lk := ⟨_, rfl⟩
      have hlk : Lk.length = 64 := by rw [← hLk, List.length_take, List.length_drop, HN.out]; omega
      have HC : Aside0 (∀ W, Fr B w W → Kd.C (Kd.int .u8) W (some (A.add (k * 64))) 64 Lk) := ⟨fun W f => by
        have h1 := HL.out W f
        rw [← HN.out] at h1
        have h2 := Kd.C_drop (c := L.length + 1) h1 (m := k * 64) (by rw [HN.out]; omega) (by omega)
        rw [if_neg (by rw [HN.out]; omega)] at h2
        have h3 := Kd.C_take h2 (m := 64) (by rw [List.length_drop, HN.out]; omega)
        rw [hLk, hlk] at h3
        have : (Kd.int IntKind.u8).sz = 1 := rfl
        simpa [this] using h3⟩
      have HLk := Aside0.mk hlk
      have HE3 : Aside0 (writesD (chunkD (at0 + (k : Nat)) (n - k) (L.drop (k * 64))) D' = seqD (writeD D' (at0 + k) Lk) (writesD (chunkD (at0 + ((k + 1 : Nat) : Int)) (n - (k + 1)) (L.drop ((k + 1) * 64))))) := ⟨by
        rw [show n - k = (n - (k + 1)) + 1 by omega, chunkD, hLk, List.drop_drop, show k * 64 + 64 = (k + 1) * 64 by omega, show at0 + (k : Int) + 1 = at0 + ((k + 1 : Nat) : Int) by omega]
        rfl⟩
      have WC : Aside0 (∀ W, Fr (fun _ => False) wr W → Calls Try.prog 14 #[.pointer (some ⟨g, 0, none⟩), .int .i64 (at0 + k), .slice (some (A.add (k * 64))) 64 (cp - k * 64)] W fun e w' => e = .returned (.int .i64 (writeD D' (at0 + k) Lk).1) ∧ Moved w B g w' (writeD D' (at0 + k) Lk).2) := ⟨fun W f => by
        have hst : ∀ W', Fr B' W W' → Kd.C (Kd.int .u8) W' (some (A.add (k * 64))) Lk.length Lk := fun W' f' => by
          rw [HLk.out]
          exact HC.out W' (HF.out.trans (f'.trans (Fr.refl B' _) (fun _ h => .inl h) |> fun f2 => (f.mono (fun _ h => h.elim)).trans f2 (fun _ h => .inl h)) HS.out)
        have w1 := write_moved g B' D' (at0 + k) (some (A.add (k * 64))) (cp - k * 64) Lk W _ (HH.out.fr f (fun _ _ h => h)) HO.out (by have := HI0.out; omega) (WalkArith.wf_i64 (by omega)) (hst W (Fr.refl _ _)) (by rw [HLk.out]; omega) (stab_C (d := Kd.int .u8) (by decide) hst)
        rw [HLk.out] at w1
        exact w1.mono fun e w' ⟨he, m⟩ => ⟨he, (m.ahead f).back HS.out HF.out⟩⟩
      clear hLk hlk
      have HO2 := Aside0.mk (HO.out.write (at0 + k) Lk)
      go_wp2_with fail
      have q1 : IntKind.i64.wrap ((k : Int) * 64 + 64) = (k : Int) * 64 + 64 := IntWalk.i64_in _ (by omega)
      have q2 : ((k : Int) * 64).tdiv 64 = k := by rw [Int.mul_tdiv_cancel _ (by decide)]
      have q3 : IntKind.i64.wrap (at0 + (k : Int)) = at0 + k := IntWalk.i64_in _ (by omega)
      have q4 : IntKind.i64.wrap (k : Int) = k := IntWalk.i64_in _ (by omega)
      have q5 : ((k : Int) * 64).toNat = k * 64 := by omega
      have q6 : ((k : Int) * 64 + 64).toNat = k * 64 + 64 := by omega
      have q7 : (0 : Int) ≤ (k : Int) * 64 := by omega
      have q8 : k * 64 + 64 ≤ cp := by omega
      have q9 := cut64 A (n * 64) cp k q8
      go_region_held3 (fun W => W.cell? ⟨n0, 0, none⟩ = some (.slice (some A) (n * 64) cp) ∧ W.cell? ⟨n1, 0, none⟩ = some (.pointer (some ⟨lb, 0, none⟩)) ∧ W.cell? ⟨n2, 0, none⟩ = some (.int .i64 at0) ∧ W.cell? ⟨lb, 0, none⟩ = some (.pointer (some ⟨g, 0, none⟩))) (first | exact ⟨g0, g1, g2, g3⟩ | exact S5.out) (first
        | (go_at_call 14; refine (WC.out _ (Fr.refl _ _).drew).mono ?_; rintro e w5 ⟨rfl, m⟩; have M := Aside0.mk m; have S5 := Aside0.mk (And.intro (cellB m.fr b0 C0.out) (And.intro (cellB m.fr b1 C1.out) (And.intro (cellB m.fr b2 C2.out) (cellB m.fr b3 C3.out)))); clear m))
      clear q1 q2 q3 q4 q5 q6 q8 q9 WC HC g0 g1 g2 g3 S5
      obtain ⟨e0, he0⟩ : ∃ e0, (writeD D' (at0 + k) Lk).1 = e0 := ⟨_, rfl⟩
      have HE0 := Aside0.mk he0
      rw [he0]
      clear he0
      by_cases hz : e0 = 0
      · subst hz
        have H2 : Aside0 (∃ D', Moved w B g w5 D' ∧ JOk (i + (k + 1)) D' ∧ writesD (chunkD at0 n L) D = writesD (chunkD (at0 + ((k + 1 : Nat) : Int)) (n - (k + 1)) (L.drop ((k + 1) * 64))) D') := ⟨⟨_, M.out, HO2.out, by rw [HE'.out, HE3.out, seqD, if_pos HE0.out]⟩⟩
        clear M HO2 HE3 HE' HE0
        go_wp2_with fail
        go_roundg k1
        case measure => omega
        case rel => exact ⟨k + 1, by rw [show (((k + 1 : Nat) : Int)) * 64 = (k : Int) * 64 + 64 by omega], HI3, H2⟩
      · have hq : Aside0 (writesD (chunkD at0 n L) D = writeD D' (at0 + k) Lk) := ⟨by rw [HE'.out, HE3.out, seqD, if_neg (by rw [HE0.out]; exact hz)]⟩
        have e1 : (e0 != 0) = true := by simpa using hz
        clear HE3 HE' HO2
        go_wp2_with fail
        go_ret
        rw [hq.out]
        exact ⟨by rw [HE0.out]; rfl, M.out⟩

set_option maxHeartbeats 4000000 in
set_option maxRecDepth 100000 in
theorem com2_calls (g : Nat) (B : Nat → Prop) (D : DS) (A : Option Addr) (cp n : Nat) (s : Int) (n0 n1 n2 lb : Nat) (w : World) (i : Nat) (h : IsDisk w B g D) (ho : JOk i D) (hi : i ≤ 400000) (hn : n ≤ 1000)
    (c0 : w.cell? ⟨n0, 0, none⟩ = some (.pointer (some ⟨lb, 0, none⟩))) (c1 : w.cell? ⟨n1, 0, none⟩ = some (.slice A n cp)) (c2 : w.cell? ⟨n2, 0, none⟩ = some (.int .u32 s)) (c3 : w.cell? ⟨lb, 0, none⟩ = some (.pointer (some ⟨g, 0, none⟩)))
    (b0 : ¬ B n0) (b1 : ¬ B n1) (b2 : ¬ B n2) (b3 : ¬ B lb) :
    Calls Try.prog 79 #[.pointer (some ⟨n0, 0, none⟩), .pointer (some ⟨n1, 0, none⟩), .pointer (some ⟨n2, 0, none⟩)] w fun e w' => e = .returned (.int .i64 (laysD (headL n s) D).1) ∧ Moved w B g w' (laysD (headL n s) D).2 := by
  have HC : Aside0 (∀ W, Fr (fun _ => False) w W → Calls Try.prog 62 #[.int .i64 (n : Int), .int .u32 s] W fun e w' => ∃ A c, e = .returned (.slice A 64 c) ∧ Fr (fun _ => False) w w' ∧
      Calls Try.prog 65 #[.pointer (some ⟨g, 0, none⟩), .slice A 64 c] w' fun e w'' => e = .returned (.int .i64 (laysD (headL n s) D).1) ∧ Moved w B g w'' (laysD (headL n s) D).2) := ⟨fun W f => by
    refine (head_lays n s ⟨by omega, by omega⟩ g B D W i (h.fr f (fun _ _ h => h)) ho hi).mono ?_
    rintro e w' ⟨A, c, rfl, f', hc⟩
    exact ⟨A, c, rfl, f.trans f' (fun _ h => h.elim), hc.mono fun e w'' ⟨he, m⟩ => ⟨he, m.ahead f⟩⟩⟩
  have S0 := Aside0.mk (And.intro c0 (And.intro c1 (And.intro c2 c3)))
  clear h ho hi
  go_enter Try.func79, Try.ntmps79
  go_wp2_with fail
  go_region_held3 (fun W => W.cell? ⟨n0, 0, none⟩ = some (.pointer (some ⟨lb, 0, none⟩)) ∧ W.cell? ⟨n1, 0, none⟩ = some (.slice A n cp) ∧ W.cell? ⟨n2, 0, none⟩ = some (.int .u32 s) ∧ W.cell? ⟨lb, 0, none⟩ = some (.pointer (some ⟨g, 0, none⟩))) (first | exact S0.out | exact S4.out | exact S5.out) (first
    | (go_at_call 62; refine (HC.out _ (Fr.refl _ _).drew).mono ?_; rintro e w4 ⟨A4, c4, rfl, hf4, hc4⟩; have S4 := Aside0.mk (And.intro (cellK hf4 S0.out.1) (And.intro (cellK hf4 S0.out.2.1) (And.intro (cellK hf4 S0.out.2.2.1) (cellK hf4 S0.out.2.2.2)))); have H65 := Aside0.mk hc4; clear hf4 hc4)
    | (go_at_call 65; refine H65.out.mono ?_; rintro e w5 ⟨rfl, m⟩; have M := Aside0.mk m; have S5 := Aside0.mk (And.intro (cellB m.fr b0 S0.out.1) (And.intro (cellB m.fr b1 S0.out.2.1) (And.intro (cellB m.fr b2 S0.out.2.2.1) (cellB m.fr b3 S0.out.2.2.2)))); clear m))
  all_goals (
    go_wp2_with fail
    go_ret
    exact ⟨rfl, M.out⟩)

set_option maxHeartbeats 4000000 in
set_option maxRecDepth 100000 in
theorem com3_calls (g : Nat) (B : Nat → Prop) (D : DS) (A : Option Addr) (cp n : Nat) (l : List S102) (n0 n1 lb : Nat) (w : World) (i : Nat) (h : IsDisk w B g D) (ho : JOk i D) (hi : i + n ≤ 300000) (hn : l.length = n)
    (c0 : w.cell? ⟨n0, 0, none⟩ = some (.pointer (some ⟨lb, 0, none⟩))) (c1 : w.cell? ⟨n1, 0, none⟩ = some (.slice A n cp)) (c3 : w.cell? ⟨lb, 0, none⟩ = some (.pointer (some ⟨g, 0, none⟩)))
    (b0 : ¬ B n0) (b1 : ¬ B n1) (b3 : ¬ B lb) (hl : ∀ W', Fr B w W' → Kd.C k102 W' A n l) (hr : ∀ x ∈ l, 0 ≤ x.f0 ∧ x.f0 ≤ 1000000) :
    Calls Try.prog 80 #[.pointer (some ⟨n0, 0, none⟩), .pointer (some ⟨n1, 0, none⟩)] w fun e w' => e = .returned (.int .i64 (finishD l D).1) ∧ Moved w B g w' (finishD l D).2 := by
  have FC : Aside0 (∀ W, Fr (fun _ => False) w W → Calls Try.prog 64 #[.pointer (some ⟨g, 0, none⟩), .slice A n cp] W fun e w' => e = .returned (.int .i64 (finishD l D).1) ∧ Moved w B g w' (finishD l D).2) := ⟨fun W f =>
    (finish_calls g B D A cp n l W i (h.fr f (fun _ _ h => h)) ho hi hn (fun W' f' => hl W' ((f.mono (fun _ h => h.elim)).trans f' (fun _ h => .inl h))) hr).mono fun e w' ⟨he, m⟩ => ⟨he, m.ahead f⟩⟩
  have S0 := Aside0.mk (And.intro c0 (And.intro c1 c3))
  clear h ho hi hl hr hn
  go_enter Try.func80, Try.ntmps80
  go_wp2_with fail
  go_region_held3 (fun W => W.cell? ⟨n0, 0, none⟩ = some (.pointer (some ⟨lb, 0, none⟩)) ∧ W.cell? ⟨n1, 0, none⟩ = some (.slice A n cp) ∧ W.cell? ⟨lb, 0, none⟩ = some (.pointer (some ⟨g, 0, none⟩))) (first | exact S0.out | exact S5.out) (first
    | (go_at_call 64; refine (FC.out _ (Fr.refl _ _).drew).mono ?_; rintro e w5 ⟨rfl, m⟩; have M := Aside0.mk m; have S5 := Aside0.mk (And.intro (cellB m.fr b0 S0.out.1) (And.intro (cellB m.fr b1 S0.out.2.1) (cellB m.fr b3 S0.out.2.2))); clear m))
  all_goals (
    go_wp2_with fail
    go_ret
    exact ⟨rfl, M.out⟩)
end Go.Proofs.Ytppgbfkhiofjiaa.X

namespace Go.Proofs.Ytppgbfkhiofjiaa.X
open Go.RowKit Go.Proofs.YtppgbfkhiofjiaaW.PrintWords Go.Proofs.YtppgbfkhiofjiaaW.PrintLast Go.Proofs.YtppgbfkhiofjiaaW.PrintMore Go.Proofs.Ytppgbfkhiofjiaa.Y
set_option linter.unusedVariables false
set_option linter.unusedSimpArgs false

def placesL (l : List S102) : List Int := l.flatMap fun x => fourL x.f0
def dataL (l : List S102) : List Int := l.flatMap fun x => x.f1
def sumV (l : List Int) : Int := bits .xor .u32 IntKind.u32.max (sumL 4294967295 l)
def padL (n : Nat) (p : List Int) : List Int := p ++ List.replicate ((64 - (n * 4) % 64) % 64) 0
def padN (n : Nat) : Nat := (n * 4 + 63) / 64
theorem placesL_length : ∀ l : List S102, (placesL l).length = l.length * 4
  | [] => rfl
  | x :: l => by
    rw [placesL, List.flatMap_cons, List.length_append]
    have := placesL_length l
    rw [placesL] at this
    rw [this, List.length_cons]
    show 4 + _ = _
    omega
theorem dataL_length : ∀ l : List S102, (∀ x ∈ l, x.f1.length = 64) → (dataL l).length = l.length * 64
  | [], _ => rfl
  | x :: l, h => by
    rw [dataL, List.flatMap_cons, List.length_append, h x (by simp)]
    have := dataL_length l (fun y hy => h y (by simp [hy]))
    rw [dataL] at this
    rw [this, List.length_cons]
    omega
theorem padL_length {n : Nat} {p : List Int} (h : p.length = n * 4) : (padL n p).length = padN n * 64 := by
  unfold padL padN
  rw [List.length_append, List.length_replicate, h]
  omega
/-- What a Commit does to a disk. -/
def commitD (l : List S102) (D : DS) : Int × DS :=
  runD [writesD (chunkD 5 l.length (dataL l)), writesD (chunkD 1 (padN l.length) (padL l.length (placesL l))), flushD, laysD (headL l.length (sumV (placesL l ++ dataL l))), finishD l] D
def comB (i n : Nat) : Nat → Nat
  | 0 => i
  | 1 => i + n
  | 2 => i + n + padN n
  | 3 => i + n + padN n + 1
  | 4 => i + n + padN n + 3
  | _ => i + n + padN n + 3 + n + 3
theorem padN_le {n : Nat} (h : n ≤ 64) : padN n ≤ 4 := by unfold padN; omega

theorem com_row (g : Nat) (B : Nat → Prop) (D : DS) (A : Option Addr) (cp n : Nat) (l : List S102) (s : Int) (A5 A6 : Addr) (c5 c6 : Nat) (P Dt : List Int) (n0 n1 n2 p1 q1 p2 q2 nr lb c : Nat) (W : World) (i : Nat) (h : IsDisk W B g D) (ho : JOk i D) (hi : i ≤ 200000) (hn : l.length = n) (hn64 : n ≤ 64)
    (hP : P.length = padN n * 64) (hDt : Dt.length = n * 64) (hc5 : padN n * 64 ≤ c5) (hc6 : n * 64 ≤ c6)
    (c0 : W.cell? ⟨n0, 0, none⟩ = some (.pointer (some ⟨lb, 0, none⟩))) (c1 : W.cell? ⟨n1, 0, none⟩ = some (.slice A n cp)) (c2 : W.cell? ⟨n2, 0, none⟩ = some (.int .u32 s)) (c3 : W.cell? ⟨lb, 0, none⟩ = some (.pointer (some ⟨g, 0, none⟩)))
    (e1 : W.cell? ⟨p1, 0, none⟩ = some (.slice (some A6) (n * 64) c6)) (e2 : W.cell? ⟨q1, 0, none⟩ = some (.int .i64 5)) (e3 : W.cell? ⟨p2, 0, none⟩ = some (.slice (some A5) (padN n * 64) c5)) (e4 : W.cell? ⟨q2, 0, none⟩ = some (.int .i64 1))
    (b0 : ¬ B n0) (b1 : ¬ B n1) (b2 : ¬ B n2) (b3 : ¬ B lb) (b4 : ¬ B p1) (b5 : ¬ B q1) (b6 : ¬ B p2) (b7 : ¬ B q2) (b8 : ¬ B nr)
    (d0 : W.cell? ⟨nr, 0, none⟩ = some (.func (.func 77) #[] #[.pointer (some ⟨p1, 0, none⟩), .pointer (some ⟨n0, 0, none⟩), .pointer (some ⟨q1, 0, none⟩)]))
    (d1 : W.cell? ⟨nr, 1, none⟩ = some (.func (.func 77) #[] #[.pointer (some ⟨p2, 0, none⟩), .pointer (some ⟨n0, 0, none⟩), .pointer (some ⟨q2, 0, none⟩)]))
    (d2 : W.cell? ⟨nr, 2, none⟩ = some (.func (.func 15) #[.pointer (some ⟨g, 0, none⟩)] #[]))
    (d3 : W.cell? ⟨nr, 3, none⟩ = some (.func (.func 79) #[] #[.pointer (some ⟨n0, 0, none⟩), .pointer (some ⟨n1, 0, none⟩), .pointer (some ⟨n2, 0, none⟩)]))
    (d4 : W.cell? ⟨nr, 4, none⟩ = some (.func (.func 80) #[] #[.pointer (some ⟨n0, 0, none⟩), .pointer (some ⟨n1, 0, none⟩)]))
    (hl : ∀ W', Fr B W W' → Kd.C k102 W' A n l) (hr : ∀ x ∈ l, 0 ≤ x.f0 ∧ x.f0 ≤ 1000000) (h5 : ∀ W', Fr B W W' → Kd.C (Kd.int .u8) W' (some A5) (padN n * 64) P) (h6 : ∀ W', Fr B W W' → Kd.C (Kd.int .u8) W' (some A6) (n * 64) Dt) :
    Calls Try.prog 78 #[.slice (some ⟨nr, 0, none⟩) 5 c] W fun e w' => e = .returned (.int .i64 (runD [writesD (chunkD 5 n Dt), writesD (chunkD 1 (padN n) P), flushD, laysD (headL n s), finishD l] D).1) ∧
      Moved W B g w' (runD [writesD (chunkD 5 n Dt), writesD (chunkD 1 (padN n) P), flushD, laysD (headL n s), finishD l] D).2 := by
  have hp4 := padN_le hn64
  have lt : ∀ {k : Nat} {v : Value}, W.cell? ⟨k, 0, none⟩ = some v → k < W.heap.size := fun h => World.block_lt_of_cell? _ _ h
  refine row_disk [(⟨77, #[], #[.pointer (some ⟨p1, 0, none⟩), .pointer (some ⟨n0, 0, none⟩), .pointer (some ⟨q1, 0, none⟩)]⟩, writesD (chunkD 5 n Dt)), (⟨77, #[], #[.pointer (some ⟨p2, 0, none⟩), .pointer (some ⟨n0, 0, none⟩), .pointer (some ⟨q2, 0, none⟩)]⟩, writesD (chunkD 1 (padN n) P)),
    (⟨15, #[.pointer (some ⟨g, 0, none⟩)], #[]⟩, flushD), (⟨79, #[], #[.pointer (some ⟨n0, 0, none⟩), .pointer (some ⟨n1, 0, none⟩), .pointer (some ⟨n2, 0, none⟩)]⟩, laysD (headL n s)), (⟨80, #[], #[.pointer (some ⟨n0, 0, none⟩), .pointer (some ⟨n1, 0, none⟩)]⟩, finishD l)] 5 rfl (by omega) ⟨nr, 0, none⟩ c W B g D
    (fun k D => JOk (comB i n k) D) ?_ b8 ?_ ?_ ?_ h ho
  · intro j s hs
    match j, hs with
    | 0, hs => obtain rfl := Option.some.inj hs; exact d0
    | 1, hs => obtain rfl := Option.some.inj hs; exact d1
    | 2, hs => obtain rfl := Option.some.inj hs; exact d2
    | 3, hs => obtain rfl := Option.some.inj hs; exact d3
    | 4, hs => obtain rfl := Option.some.inj hs; exact d4
  · intro j s hs
    match j, hs with
    | 0, hs => obtain rfl := Option.some.inj hs; exact ent77
    | 1, hs => obtain rfl := Option.some.inj hs; exact ent77
    | 2, hs => obtain rfl := Option.some.inj hs; exact ent15
    | 3, hs => obtain rfl := Option.some.inj hs; exact ent79
    | 4, hs => obtain rfl := Option.some.inj hs; exact ent80
  · intro j s' W' D' hs hI m
    obtain ⟨B', h', hs', f'⟩ := m
    have nb : ∀ k, k < W.heap.size → ¬ B k → ¬ B' k := fun k hk hn hB' => (hs' k hB').elim hn (fun h => by omega)
    match j, hs with
    | 0, hs =>
      obtain rfl := Option.some.inj hs
      exact (lay_calls g B' D' A6 c6 n 5 Dt p1 n0 q1 lb W' i h' hI (by omega) hDt (by omega) hc6 (cellB f' b4 e1) (cellB f' b0 c0) (cellB f' b5 e2) (cellB f' b3 c3) (nb _ (lt e1) b4) (nb _ (lt c0) b0) (nb _ (lt e2) b5) (nb _ (lt c3) b3) (fun W'' f'' => h6 W'' (f'.trans f'' hs'))).mono fun e w' ⟨he, m'⟩ => ⟨he, m'.back hs' f'⟩
    | 1, hs =>
      obtain rfl := Option.some.inj hs
      exact (lay_calls g B' D' A5 c5 (padN n) 1 P p2 n0 q2 lb W' (i + n) h' hI (by omega) hP (by omega) hc5 (cellB f' b6 e3) (cellB f' b0 c0) (cellB f' b7 e4) (cellB f' b3 c3) (nb _ (lt e3) b6) (nb _ (lt c0) b0) (nb _ (lt e4) b7) (nb _ (lt c3) b3) (fun W'' f'' => h5 W'' (f'.trans f'' hs'))).mono fun e w' ⟨he, m'⟩ => ⟨he, m'.back hs' f'⟩
    | 2, hs =>
      obtain rfl := Option.some.inj hs
      exact (flush_moved g B' D' W' (i + n + padN n) h' hI (by omega)).mono fun e w' ⟨he, m'⟩ => ⟨he, m'.back hs' f'⟩
    | 3, hs =>
      obtain rfl := Option.some.inj hs
      exact (com2_calls g B' D' A cp n s n0 n1 n2 lb W' (i + n + padN n + 1) h' hI (by omega) (by omega) (cellB f' b0 c0) (cellB f' b1 c1) (cellB f' b2 c2) (cellB f' b3 c3) (nb _ (lt c0) b0) (nb _ (lt c1) b1) (nb _ (lt c2) b2) (nb _ (lt c3) b3)).mono fun e w' ⟨he, m'⟩ => ⟨he, m'.back hs' f'⟩
    | 4, hs =>
      obtain rfl := Option.some.inj hs
      exact (com3_calls g B' D' A cp n l n0 n1 lb W' (i + n + padN n + 3) h' hI (by omega) hn (cellB f' b0 c0) (cellB f' b1 c1) (cellB f' b3 c3) (nb _ (lt c0) b0) (nb _ (lt c1) b1) (nb _ (lt c3) b3) (fun W'' f'' => hl W'' (f'.trans f'' hs')) hr).mono fun e w' ⟨he, m'⟩ => ⟨he, m'.back hs' f'⟩
  · intro j s' D' hs hI
    match j, hs with
    | 0, hs =>
      obtain rfl := Option.some.inj hs
      have := JOk.writes (chunkD 5 n Dt) (i := i) hI
      rwa [chunkD_length] at this
    | 1, hs =>
      obtain rfl := Option.some.inj hs
      have := JOk.writes (chunkD 1 (padN n) P) (i := i + n) hI
      rwa [chunkD_length] at this
    | 2, hs => obtain rfl := Option.some.inj hs; exact JOk.flush (i := i + n + padN n) hI
    | 3, hs => obtain rfl := Option.some.inj hs; exact JOk.lays (i := i + n + padN n + 1) hI _
    | 4, hs =>
      obtain rfl := Option.some.inj hs
      have := JOk.finish (i := i + n + padN n + 3) hI l
      rwa [hn] at this
theorem JOk.commit {i : Nat} {D : DS} (h : JOk i D) (l : List S102) (hn : l.length ≤ 64) : JOk (i + 150) (commitD l D).2 := by
  have hp := padN_le hn
  have h1 := JOk.writes (chunkD 5 l.length (dataL l)) h
  rw [chunkD_length] at h1
  refine JOk.mono (i := i + l.length + padN l.length + 3 + l.length + 3) ?_ (by omega)
  exact JOk.seq (j := 0) h1 (fun h1 => JOk.seq (j := 0) (i := i + l.length + padN l.length) (by have := JOk.writes (chunkD 1 (padN l.length) (padL l.length (placesL l))) h1; rwa [chunkD_length] at this)
    (fun h2 => JOk.seq (j := 0) h2.flush (fun h3 => JOk.seq (j := 0) (h3.lays _) (fun h4 => JOk.seq (j := 0) (h4.finish l) (fun h5 => h5) (by omega)) (by omega)) (by omega)) (by omega)) (by omega)
end Go.Proofs.Ytppgbfkhiofjiaa.X
