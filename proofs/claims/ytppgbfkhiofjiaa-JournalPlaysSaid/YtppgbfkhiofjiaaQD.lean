/-
  Of the proof of JournalPlays (put together by wip/tools/mkclaimj.py):
  The journal: the contracts of finish and of Format.
  The journal: the contracts of Format and of the closures of commit.
  The journal: the contract of commit.
  The reference's check sum, as a contract over the bytes.
  The journal: the contract of commit.
  The journal: the contracts of a journal's Sectors, has, Read; of sectors.
  The journal: the contract of Commit.
-/
import Derived.Test.YtppgbfkhiofjiaaQC
import Derived.Deep.RegionHeld3
import Derived.IntWalk
import Derived.WalkSpells
namespace Go.Proofs.Ytppgbfkhiofjiaa.X
open Go.RowKit Go.Proofs.YtppgbfkhiofjiaaW.PrintWords Go.Proofs.YtppgbfkhiofjiaaW.PrintLast Go.Proofs.YtppgbfkhiofjiaaW.PrintMore Go.Proofs.Ytppgbfkhiofjiaa.Y
set_option linter.unusedVariables false
set_option linter.unusedSimpArgs false

def writesD : List (Int × List Int) → DS → Int × DS
  | [], D => (0, D)
  | p :: l, D => seqD (writeD D p.1 p.2) (writesD l)
def wr69 (l : List S102) : List (Int × List Int) := l.map fun x => (69 + x.f0, x.f1)
theorem JOk.writes : ∀ (l : List (Int × List Int)) {i : Nat} {D : DS} (_ : JOk i D), JOk (i + l.length) (writesD l D).2
  | [], i, D, h => h
  | p :: l, i, D, h => by
    have h1 := h.write p.1 p.2
    rw [List.length_cons, writesD]
    refine JOk.seq (j := 0) h1 (fun h2 => ?_) (by omega)
    have := JOk.writes l h2
    rwa [show i + (l.length + 1) = i + 1 + l.length by omega]
def finishD (l : List S102) (D : DS) : Int × DS := runD [writesD (wr69 l), flushD, laysD (headL 0 0)] D

/-- What is read in every world that keeps all but B lies in no block of B. -/
theorem stab_block {w : World} {B : Nat → Prop} {k : Nat} (P : World → Prop) (hP : ∀ W, Fr B w W → P W) (hr : ∀ W, P W → ∃ a v, a.block = k ∧ W.cell? a = some v) : ¬ B k := by
  intro hB
  obtain ⟨a0, v0, rfl, h0⟩ := hr w (hP w (Fr.refl _ _))
  have hk : a0.block < w.heap.size := World.block_lt_of_cell? w _ h0
  obtain ⟨a, v, e, h⟩ := hr { w with heap := w.heap.setIfInBounds a0.block (.map #[] 0) } (hP _ ⟨rfl, rfl, rfl, by simp, fun i hi hn => by
    have : a0.block ≠ i := by rintro rfl; exact hn hB
    simp [Array.getElem?_setIfInBounds, this]⟩)
  have hh : ({ w with heap := w.heap.setIfInBounds a0.block (.map #[] 0) } : World).heap[a0.block]? = some (.map #[] 0) := by simp [Array.getElem?_setIfInBounds, hk]
  simp [World.cell?, e, hh] at h
theorem add_block (a : Addr) (i : Nat) : (a.add i).block = a.block := by unfold Addr.add; split <;> rfl
theorem C_cell {α : Type} {d : Kd α} (hs : 0 < d.sz) {W : World} {ad : Addr} {n : Nat} {xs : List α} (h : d.C W (some ad) n xs) (h0 : 0 < n) : ∃ a v, a.block = ad.block ∧ W.cell? a = some v := by
  obtain ⟨e1, _, h2⟩ := h
  obtain ⟨ad', e, hc⟩ := h2 h0
  injection e with e
  subst e
  obtain ⟨c, hl, _, hcell⟩ := hc 0 _ (List.getElem?_eq_getElem (by omega))
  exact ⟨_, _, add_block _ _, hcell 0 _ (List.getElem?_eq_getElem (by omega))⟩
theorem stab_C {α : Type} {d : Kd α} (hs : 0 < d.sz) {w : World} {B : Nat → Prop} {A : Option Addr} {n : Nat} {xs : List α} (h : ∀ W, Fr B w W → d.C W A n xs) : ∀ ad, A = some ad → 0 < n → ¬ B ad.block := by
  rintro ad rfl h0
  exact stab_block (fun W => d.C W (some ad) n xs) h (fun W hW => C_cell hs hW h0)
theorem lt_C {α : Type} {d : Kd α} (hs : 0 < d.sz) {w : World} {A : Option Addr} {n : Nat} {xs : List α} (h : d.C w A n xs) : ∀ ad, A = some ad → 0 < n → ad.block < w.heap.size := by
  rintro ad rfl h0
  obtain ⟨a, v, e, hv⟩ := C_cell hs h h0
  have := World.block_lt_of_cell? w _ hv
  omega
/-- A stable list of writes, at one place: its cells, and its bytes, stable too. -/
theorem stab_102 {w : World} {B : Nat → Prop} {A : Option Addr} {n : Nat} {l : List S102} (hn : l.length = n) (h : ∀ W, Fr B w W → Kd.C k102 W A n l) {W : World} {B' : Nat → Prop} (f : Fr B w W) (hs : ∀ k, B' k → B k ∨ w.heap.size ≤ k) {i : Nat} {x : S102} (hx : l[i]? = some x) :
    ∃ ad A1 c1, A = some ad ∧ W.cell? (ad.add (i * 2)) = some (.int .i64 x.f0) ∧ W.cell? ⟨(ad.add (i * 2)).block, (ad.add (i * 2)).off + 1, none⟩ = some (.slice A1 x.f1.length c1) ∧ x.f1.length ≤ c1 ∧
      ∀ W', Fr B' W W' → Kd.C (Kd.int .u8) W' A1 x.f1.length x.f1 := by
  obtain ⟨hi, hget⟩ := List.getElem?_eq_some_iff.1 hx
  have key : ∀ W, Fr B w W → ∃ ad A1 c1, A = some ad ∧ W.cell? (ad.add (i * 2)) = some (.int .i64 x.f0) ∧ W.cell? ⟨(ad.add (i * 2)).block, (ad.add (i * 2)).off + 1, none⟩ = some (.slice A1 x.f1.length c1) ∧ x.f1.length ≤ c1 ∧ Kd.C (Kd.int .u8) W A1 x.f1.length x.f1 := by
    intro W f
    obtain ⟨ad, A1, c1, e, g1, g2, g3, g4⟩ := at_T102 (h W f) (i : Int) (by omega) (by omega)
    have hr : rd_T102 l (i : Int) = x := by
      unfold rd_T102
      rw [Int.toNat_natCast, List.getD_eq_getElem?_getD, hx]
      rfl
    rw [hr, Int.toNat_natCast] at g1
    rw [hr, Int.toNat_natCast] at g2
    rw [hr] at g3 g4
    exact ⟨ad, A1, c1, e, g1, g2, g3, g4⟩
  obtain ⟨ad, A1, c1, e, g1, g2, g3, g4⟩ := key W f
  refine ⟨ad, A1, c1, e, g1, g2, g3, fun W' f' => ?_⟩
  have hb : ¬ B ad.block := stab_C (d := k102) (by decide) h ad e (by omega)
  have hlt : ad.block < w.heap.size := lt_C (d := k102) (by decide) (h w (Fr.refl _ _)) ad e (by omega)
  have hb' : ¬ B' ad.block := fun hB => (hs _ hB).elim hb (fun hge => by omega)
  obtain ⟨ad', A1', c1', e', g1', g2', g3', g4'⟩ := key W' (f.trans f' hs)
  rw [e] at e'
  injection e' with e'
  subst e'
  have := cellB f' (a := ⟨(ad.add (i * 2)).block, (ad.add (i * 2)).off + 1, none⟩) (by rw [add_block]; exact hb') g2
  rw [this] at g2'
  injection g2' with g2'
  injection g2' with g2' _ _
  subst g2'
  exact g4'

set_option maxHeartbeats 4000000 in
set_option maxRecDepth 100000 in
theorem fin1_calls (g : Nat) (B : Nat → Prop) (D : DS) (A : Option Addr) (cp n : Nat) (l : List S102) (n0 n1 : Nat) (w : World) (i : Nat) (h : IsDisk w B g D) (ho : JOk i D) (hi : i + n ≤ 500000) (hn : l.length = n)
    (c0 : w.cell? ⟨n0, 0, none⟩ = some (.slice A n cp)) (c1 : w.cell? ⟨n1, 0, none⟩ = some (.pointer (some ⟨g, 0, none⟩))) (b1 : ¬ B n1) (hl : ∀ W, Fr B w W → Kd.C k102 W A n l) (hr : ∀ x ∈ l, 0 ≤ x.f0 ∧ x.f0 ≤ 1000000) :
    Calls Try.prog 82 #[.pointer (some ⟨n0, 0, none⟩), .pointer (some ⟨n1, 0, none⟩)] w fun e w' => e = .returned (.int .i64 (writesD (wr69 l) D).1) ∧ Moved w B g w' (writesD (wr69 l) D).2 := by
  have HN := Aside0.mk hn
  have HL := Aside0.mk hl
  have HR := Aside0.mk hr
  have H0 : Aside0 (∃ D', Moved w B g w D' ∧ JOk (i + 0) D' ∧ writesD (wr69 l) D = writesD (wr69 (l.drop 0)) D') := ⟨⟨D, Moved.refl h, ho, by rw [List.drop_zero]⟩⟩
  have HI0 := Aside0.mk hi
  have hn5 : n ≤ 500000 := by omega
  have C1 := Aside0.mk c1
  clear hl hr hn h ho hi c1
  go_enter Try.func82, Try.ntmps82
  go_wp2_with fail
  go_loopg [8] n (fun kq v8 w' => ∃ (k : Nat), v8 = .int .i64 (k : Int) ∧ Aside0 (k + kq = n) ∧ Aside0 (∃ D', Moved w B g w' D' ∧ JOk (i + k) D' ∧ writesD (wr69 l) D = writesD (wr69 (l.drop k)) D'))
  case atStart => exact ⟨0, rfl, ⟨by omega⟩, H0⟩
  case round =>
    clear H0
    obtain ⟨k, rfl, HI, H1⟩ := hrel
    have hk0 : (0 : Int) ≤ (k : Int) := by omega
    cases gk with
    | zero =>
      have hk : k = n := by have := HI.out; omega
      subst hk
      go_wp2_with fail
      go_ret
      obtain ⟨D', m, _, e⟩ := H1.out
      rw [List.drop_eq_nil_of_le (by rw [HN.out]; omega)] at e
      rw [e]
      exact ⟨rfl, m⟩
    | succ k1 =>
      have hk1 : (k : Int) < (n : Int) := by have := HI.out; omega
      have HI3 : Aside0 (k + 1 + k1 = n) := ⟨by have := HI.out; omega⟩
      obtain ⟨x, hx⟩ : ∃ x, l[k]? = some x := ⟨_, List.getElem?_eq_getElem (by rw [HN.out]; omega)⟩
      obtain ⟨D', ⟨B', h', hs', f'⟩, ho', he'⟩ := H1.out
      obtain ⟨ad, A1, cap1, rfl, g1, g2, g3, g4⟩ := stab_102 HN.out HL.out f' hs' hx
      obtain ⟨r1, r2⟩ := HR.out x (List.mem_of_getElem? hx)
      have hc1 := cellB f' b1 C1.out
      have hn1 : n1 < wr.heap.size := World.block_lt_of_cell? _ _ hc1
      have HE : Aside0 (writesD (wr69 (l.drop k)) D' = seqD (writeD D' (69 + x.f0) x.f1) (writesD (wr69 (l.drop (k + 1))))) := ⟨by
        obtain ⟨hlt, hget⟩ := List.getElem?_eq_some_iff.1 hx
        rw [List.drop_eq_getElem_cons hlt, hget]
        rfl⟩
      have HE' := Aside0.mk he'
      have HH := Aside0.mk h'
      have HS := Aside0.mk hs'
      have HF := Aside0.mk f'
      have HO := Aside0.mk ho'
      have G4 := Aside0.mk g4
      have G3 := Aside0.mk g3
      clear h' hs' f' ho' g4 g3 he' hx H1
      go_wp2_with fail
      have fa : Fr (fun _ => False) wr (wr.alloc (.cells #[.int .i64 x.f0, .slice A1 x.f1.length cap1] 102)) := (Fr.refl _ _).alloc _
      have WC := Aside0.mk (write_moved g B' D' (69 + x.f0) A1 cap1 x.f1 _ _ (HH.out.fr fa (fun _ _ h => h)) HO.out (by have := HI0.out; have := HI.out; omega) (WalkArith.wf_i64 (by omega)) (G4.out _ (fa.mono (fun _ h => h.elim))) G3.out (stab_C (d := Kd.int .u8) (by decide) G4.out))
      have FA := Aside0.mk fa
      clear fa
      refine WC.out.mono ?_
      rintro e w2 ⟨rfl, m⟩
      have M := Aside0.mk ((m.ahead FA.out).back HS.out HF.out)
      have HO2 := Aside0.mk (HO.out.write (69 + x.f0) x.f1)
      clear m WC FA
      obtain ⟨e0, he0⟩ : ∃ e0, (writeD D' (69 + x.f0) x.f1).1 = e0 := ⟨_, rfl⟩
      have HE0 := Aside0.mk he0
      rw [he0]
      clear he0
      by_cases hz : e0 = 0
      · subst hz
        have H2 : Aside0 (∃ D', Moved w B g w2 D' ∧ JOk (i + (k + 1)) D' ∧ writesD (wr69 l) D = writesD (wr69 (l.drop (k + 1))) D') := ⟨⟨_, M.out, HO2.out, by rw [HE'.out, HE.out, seqD, if_pos HE0.out]⟩⟩
        clear M HO2 HE HE' HE0
        go_wp2_with fail
        go_roundg k1
        case measure => omega
        case rel => exact ⟨k + 1, by go_num, HI3, H2⟩
      · have hq : Aside0 (writesD (wr69 l) D = writeD D' (69 + x.f0) x.f1) := ⟨by rw [HE'.out, HE.out, seqD, if_neg (by rw [HE0.out]; exact hz)]⟩
        have e1 : (e0 != 0) = true := by simpa using hz
        clear HE HE' HO2
        go_wp2_with fail
        go_ret
        rw [hq.out]
        exact ⟨by rw [HE0.out]; rfl, M.out⟩

set_option maxHeartbeats 4000000 in
set_option maxRecDepth 100000 in
theorem fin2_calls (g : Nat) (B : Nat → Prop) (D : DS) (n0 : Nat) (w : World) (i : Nat) (h : IsDisk w B g D) (ho : JOk i D) (hi : i ≤ 400000)
    (c0 : w.cell? ⟨n0, 0, none⟩ = some (.pointer (some ⟨g, 0, none⟩))) (b0 : ¬ B n0) :
    Calls Try.prog 83 #[.pointer (some ⟨n0, 0, none⟩)] w fun e w' => e = .returned (.int .i64 (laysD (headL 0 0) D).1) ∧ Moved w B g w' (laysD (headL 0 0) D).2 := by
  have LC : Aside0 (∀ (W : World) (f : Fr (fun _ => False) w W), Calls Try.prog 62 #[.int .i64 0, .int .u32 0] W fun e w' => ∃ A c, e = .returned (.slice A 64 c) ∧ Fr (fun _ => False) W w' ∧ ∀ W2, w'.heap = W2.heap → Fr (fun _ => False) w W2 → Calls Try.prog 65 #[.pointer (some ⟨g, 0, none⟩), .slice A 64 c] W2 fun e w'' => e = .returned (.int .i64 (laysD (headL 0 0) D).1) ∧ Moved w B g w'' (laysD (headL 0 0) D).2) := ⟨fun W f => by
    refine (head_calls 0 0 W ⟨by omega, by omega⟩).mono ?_
    rintro e w' ⟨A, c, rfl, hr, hb⟩
    refine ⟨A, c, rfl, Fr.of_below hb _, fun W2 e2 f2 => ?_⟩
    have hlt := h.lt
    obtain ⟨A', c', e', hcap, _⟩ := Kd.R_reads hr
    have hl64 : (headL 0 0).length = 64 := rfl
    rw [hl64] at e' hcap
    injection e' with e1 _ e2'
    subst e1 e2'
    have hne : ∀ k, B k → ∀ j, W.heap.size ≤ j → k ≠ j := fun k hk j hj => by have := hlt k hk; have := f.size; omega
    have hst : ∀ W', Fr B W2 W' → Kd.C (Kd.int .u8) W' A 64 (headL 0 0) := fun W' f' => by
      have h1 : Kd.R (Kd.int .u8) 5 w' W.heap.size (fun k => W.heap.size ≤ k) (.slice A 64 c) (headL 0 0) := Kd.R_mono (Kd.R_bound hr) (fun k hk => hk.2.1)
      have h2 : Kd.R (Kd.int .u8) 5 W' W.heap.size (fun k => W.heap.size ≤ k) (.slice A 64 c) (headL 0 0) := Kd.R_step h1 (fun k hk hk2 => by
        rw [f'.keep k (by rw [← e2]; exact hk2) (fun hB => hne k hB k hk rfl), e2])
      obtain ⟨A', c', e', _, hC⟩ := Kd.R_reads h2
      injection e' with e1 _ _
      subst e1
      exact hC
    exact (lays_calls g B D A c (headL 0 0) W2 i (h.fr f2 (fun _ _ h => h)) ho hi rfl hst hcap (fun ad e => stab_C (d := Kd.int .u8) (by decide) hst ad e (by omega))).mono fun e w'' ⟨he, m⟩ => ⟨he, m.ahead f2⟩⟩
  have h0 : n0 < w.heap.size := World.block_lt_of_cell? _ _ c0
  clear h ho hi
  go_enter Try.func83, Try.ntmps83
  go_wp2_with fail
  have C0 := Aside0.mk c0
  go_region_held3 (fun W => W.cell? ⟨n0, 0, none⟩ = some (.pointer (some ⟨g, 0, none⟩))) (first | exact C0.out | exact S4.out | exact S5.out) (first
    | (go_at_call 62; refine (LC.out _ (Fr.refl _ _).drew).mono ?_; rintro e w4 ⟨A, c, rfl, hf4, hc4⟩; have S4 := Aside0.mk (cellK hf4 C0.out); have H65 := Aside0.mk (hc4 w4 rfl ((Fr.refl (fun _ => False) w).trans ⟨hf4.os, hf4.tape, hf4.output, hf4.size, hf4.keep⟩ (fun _ h => h.elim))); clear hf4 hc4)
    | (go_at_call 65; refine H65.out.mono ?_; rintro e w5 ⟨rfl, m⟩; have M := Aside0.mk m; have S5 := Aside0.mk (cellB m.fr b0 C0.out); clear m))
  all_goals (
    go_wp2_with fail
    go_ret
    exact ⟨rfl, M.out⟩)
theorem wr69_length (l : List S102) : (wr69 l).length = l.length := by simp [wr69]
theorem JOk.finish {i : Nat} {D : DS} (h : JOk i D) (l : List S102) : JOk (i + l.length + 3) (finishD l D).2 := by
  have h1 := JOk.writes (wr69 l) h
  rw [wr69_length] at h1
  exact JOk.seq (j := 0) h1 (fun h1 => JOk.seq (j := 0) h1.flush (fun h2 => JOk.seq (j := 0) (JOk.lays h2 _) (fun h3 => h3) (Nat.le_refl _)) (by omega)) (by omega)

def finB (i n : Nat) : Nat → Nat
  | 0 => i
  | 1 => i + n
  | k + 2 => i + n + 1 + 2 * k
theorem fin_row (g : Nat) (B : Nat → Prop) (D : DS) (A : Option Addr) (cp n : Nat) (l : List S102) (n0 n1 n2 c : Nat) (W : World) (i : Nat) (h : IsDisk W B g D) (ho : JOk i D) (hi : i + n ≤ 300000) (hn : l.length = n)
    (c0 : W.cell? ⟨n0, 0, none⟩ = some (.pointer (some ⟨g, 0, none⟩))) (c1 : W.cell? ⟨n1, 0, none⟩ = some (.slice A n cp)) (b0 : ¬ B n0) (b1 : ¬ B n1) (b2 : ¬ B n2)
    (d0 : W.cell? ⟨n2, 0, none⟩ = some (.func (.func 82) #[] #[.pointer (some ⟨n1, 0, none⟩), .pointer (some ⟨n0, 0, none⟩)])) (d1 : W.cell? ⟨n2, 1, none⟩ = some (.func (.func 15) #[.pointer (some ⟨g, 0, none⟩)] #[])) (d2 : W.cell? ⟨n2, 2, none⟩ = some (.func (.func 83) #[] #[.pointer (some ⟨n0, 0, none⟩)]))
    (hl : ∀ W', Fr B W W' → Kd.C k102 W' A n l) (hr : ∀ x ∈ l, 0 ≤ x.f0 ∧ x.f0 ≤ 1000000) :
    Calls Try.prog 78 #[.slice (some ⟨n2, 0, none⟩) 3 c] W fun e w' => e = .returned (.int .i64 (finishD l D).1) ∧ Moved W B g w' (finishD l D).2 := by
  have hlt0 : n0 < W.heap.size := World.block_lt_of_cell? _ _ c0
  have hlt1 : n1 < W.heap.size := World.block_lt_of_cell? _ _ c1
  refine row_disk [(⟨82, #[], #[.pointer (some ⟨n1, 0, none⟩), .pointer (some ⟨n0, 0, none⟩)]⟩, writesD (wr69 l)), (⟨15, #[.pointer (some ⟨g, 0, none⟩)], #[]⟩, flushD), (⟨83, #[], #[.pointer (some ⟨n0, 0, none⟩)]⟩, laysD (headL 0 0))] 3 rfl (by omega) ⟨n2, 0, none⟩ c W B g D (fun k D => JOk (finB i n k) D) ?_ b2 ?_ ?_ ?_ h ho
  · intro j s hs
    match j, hs with
    | 0, hs => obtain rfl := Option.some.inj hs; exact d0
    | 1, hs => obtain rfl := Option.some.inj hs; exact d1
    | 2, hs => obtain rfl := Option.some.inj hs; exact d2
  · intro j s hs
    match j, hs with
    | 0, hs => obtain rfl := Option.some.inj hs; exact ent82
    | 1, hs => obtain rfl := Option.some.inj hs; exact ent15
    | 2, hs => obtain rfl := Option.some.inj hs; exact ent83
  · intro j s W' D' hs hI m
    obtain ⟨B', h', hs', f'⟩ := m
    have nb : ∀ k, k < W.heap.size → ¬ B k → ¬ B' k := fun k hk hn hB' => (hs' k hB').elim hn (fun h => by omega)
    match j, hs with
    | 0, hs =>
      obtain rfl := Option.some.inj hs
      exact (fin1_calls g B' D' A cp n l n1 n0 W' i h' hI (by omega) hn (cellB f' b1 c1) (cellB f' b0 c0) (nb _ hlt0 b0) (fun W'' f'' => hl W'' (f'.trans f'' hs')) hr).mono fun e w' ⟨he, m'⟩ => ⟨he, m'.back hs' f'⟩
    | 1, hs =>
      obtain rfl := Option.some.inj hs
      exact (flush_moved g B' D' W' (i + n) h' hI (by omega)).mono fun e w' ⟨he, m'⟩ => ⟨he, m'.back hs' f'⟩
    | 2, hs =>
      obtain rfl := Option.some.inj hs
      exact (fin2_calls g B' D' n0 W' (i + n + 1 + 2 * 0) h' hI (by omega) (cellB f' b0 c0) (nb _ hlt0 b0)).mono fun e w' ⟨he, m'⟩ => ⟨he, m'.back hs' f'⟩
  · intro j s D' hs hI
    match j, hs with
    | 0, hs =>
      obtain rfl := Option.some.inj hs
      have := JOk.writes (wr69 l) hI
      rw [wr69_length, hn] at this
      exact this
    | 1, hs => obtain rfl := Option.some.inj hs; exact (JOk.flush (i := i + n) hI).mono (by show _ ≤ i + n + 1 + 2 * 0; omega)
    | 2, hs => obtain rfl := Option.some.inj hs; exact (JOk.lays (i := i + n + 1 + 2 * 0) hI _).mono (by show _ ≤ i + n + 1 + 2 * 1; omega)

set_option maxHeartbeats 4000000 in
set_option maxRecDepth 100000 in
theorem finish_calls (g : Nat) (B : Nat → Prop) (D : DS) (A : Option Addr) (cp n : Nat) (l : List S102) (w : World) (i : Nat) (h : IsDisk w B g D) (ho : JOk i D) (hi : i + n ≤ 300000) (hn : l.length = n)
    (hl : ∀ W', Fr B w W' → Kd.C k102 W' A n l) (hr : ∀ x ∈ l, 0 ≤ x.f0 ∧ x.f0 ≤ 1000000) :
    Calls Try.prog 64 #[.pointer (some ⟨g, 0, none⟩), .slice A n cp] w fun e w' => e = .returned (.int .i64 (finishD l D).1) ∧ Moved w B g w' (finishD l D).2 := by
  have H := Aside0.mk h
  have HO := Aside0.mk ho
  have HL := Aside0.mk hl
  have HR := Aside0.mk hr
  have HN := Aside0.mk hn
  clear h ho hl hr hn
  go_enter Try.func64, Try.ntmps64
  go_wp2_with fail
  have f3 : Fr (fun _ => False) w (((w.alloc (.cells #[.pointer (some ⟨g, 0, none⟩)] 29)).alloc (.cells #[.slice A n cp] 60)).alloc (.cells #[.func (.func 82) #[] #[.pointer (some ⟨w.heap.size + 1, 0, none⟩), .pointer (some ⟨w.heap.size, 0, none⟩)], .func (.func 15) #[.pointer (some ⟨g, 0, none⟩)] #[], .func (.func 83) #[] #[.pointer (some ⟨w.heap.size, 0, none⟩)]] 38)) := (((Fr.refl _ _).alloc _).alloc _).alloc _
  have hc := alloc3_cells (w := w) #[.pointer (some ⟨g, 0, none⟩)] #[.slice A n cp] #[.func (.func 82) #[] #[.pointer (some ⟨w.heap.size + 1, 0, none⟩), .pointer (some ⟨w.heap.size, 0, none⟩)], .func (.func 15) #[.pointer (some ⟨g, 0, none⟩)] #[], .func (.func 83) #[] #[.pointer (some ⟨w.heap.size, 0, none⟩)]] 29 60 38
  have hnB : ∀ k, w.heap.size ≤ k → ¬ B k := fun k hk h => by have := H.out.lt k h; omega
  have RC := Aside0.mk (fin_row g B D A cp n l w.heap.size (w.heap.size + 1) (w.heap.size + 1 + 1) 3 _ i (H.out.fr f3 (fun _ _ h => h)) HO.out hi HN.out (hc 0).1 (hc 0).2.1 (hnB _ (Nat.le_refl _)) (hnB _ (by omega)) (hnB _ (by omega)) (hc 0).2.2 (hc 1).2.2 (hc 2).2.2
    (fun W' f' => HL.out W' ((f3.mono (fun _ h => h.elim)).trans f' (fun _ h => .inl h))) HR.out)
  have F3 := Aside0.mk f3
  clear hc f3 hnB
  refine RC.out.mono ?_
  rintro e w' ⟨rfl, m⟩
  have M := Aside0.mk (m.ahead F3.out)
  clear m RC F3
  go_wp2_with fail
  go_ret
  exact ⟨rfl, M.out⟩
end Go.Proofs.Ytppgbfkhiofjiaa.X

namespace Go.Proofs.Ytppgbfkhiofjiaa.X
open Go.RowKit Go.Proofs.YtppgbfkhiofjiaaW.PrintWords Go.Proofs.YtppgbfkhiofjiaaW.PrintLast Go.Proofs.YtppgbfkhiofjiaaW.PrintMore Go.Proofs.Ytppgbfkhiofjiaa.Y
set_option linter.unusedVariables false
set_option linter.unusedSimpArgs false

/-- Bytes of the call's own stay readable while a disk goes on. -/
theorem own_stable {W0 W2 : World} {B : Nat → Prop} {base : Nat} {A : Option Addr} {n c : Nat} {l : List Int} (hr : Kd.R (Kd.int .u8) 5 W2 base (fun _ => True) (.slice A n c) l) (hn : l.length = n) (hB : ∀ k, B k → k < base) :
    n ≤ c ∧ ∀ W', Fr B W2 W' → Kd.C (Kd.int .u8) W' A n l := by
  obtain ⟨A', c', e', hcap, _⟩ := Kd.R_reads hr
  injection e' with e1 e2 e3
  subst e1 e3
  refine ⟨by omega, fun W' f' => ?_⟩
  have h1 : Kd.R (Kd.int .u8) 5 W2 base (fun k => base ≤ k) (.slice A n c) l := Kd.R_mono (Kd.R_bound hr) (fun k hk => hk.2.1)
  have h2 : Kd.R (Kd.int .u8) 5 W' base (fun k => base ≤ k) (.slice A n c) l := Kd.R_step h1 (fun k hk hk2 => f'.keep k hk2 (fun h => by have := hB k h; omega))
  obtain ⟨A'', c'', e'', _, hC⟩ := Kd.R_reads h2
  injection e'' with e1 _ _
  subst e1
  rw [hn] at hC
  exact hC

/-- A head, then lays with it. -/
theorem head_lays (a s : Int) (ha : 0 ≤ a ∧ a < 4294967296) (g : Nat) (B : Nat → Prop) (D : DS) (W : World) (i : Nat) (h : IsDisk W B g D) (ho : JOk i D) (hi : i ≤ 400000) :
    Calls Try.prog 62 #[.int .i64 a, .int .u32 s] W fun e w' => ∃ A c, e = .returned (.slice A 64 c) ∧ Fr (fun _ => False) W w' ∧
      Calls Try.prog 65 #[.pointer (some ⟨g, 0, none⟩), .slice A 64 c] w' fun e w'' => e = .returned (.int .i64 (laysD (headL a s) D).1) ∧ Moved W B g w'' (laysD (headL a s) D).2 := by
  refine (head_calls a s W ha).mono ?_
  rintro e w' ⟨A, c, rfl, hr, hb⟩
  have f : Fr (fun _ => False) W w' := Fr.of_below hb _
  obtain ⟨hcap, hst⟩ := own_stable (W0 := W) hr (headL_length a s) h.lt
  exact ⟨A, c, rfl, f, (lays_calls g B D A c (headL a s) w' i (h.fr f (fun _ _ h => h)) ho hi rfl hst hcap (fun ad e => stab_C (d := Kd.int .u8) (by decide) hst ad e (by omega))).mono fun e w'' ⟨he, m⟩ => ⟨he, m.ahead f⟩⟩

set_option maxHeartbeats 4000000 in
set_option maxRecDepth 100000 in
theorem sect_calls (g : Nat) (B : Nat → Prop) (D : DS) (w : World) (h : IsDisk w B g D) :
    Calls Try.prog 53 #[.pointer (some ⟨g, 0, none⟩)] w fun e w' => e = .returned (.int .i64 D.n) ∧ w' = w := by
  obtain ⟨m, cv, c0, c1, c2, c3, c4, c5, cf, hlt, _⟩ := h.cells
  clear c1 c2 c3 c4 c5 cf h
  go_enter Try.func53, Try.ntmps53
  go_wp2_with fail
  go_ret
  exact ⟨rfl, rfl⟩

set_option maxHeartbeats 4000000 in
set_option maxRecDepth 100000 in
theorem small_calls (g : Nat) (B : Nat → Prop) (D : DS) (w : World) (h : IsDisk w B g D) :
    Calls Try.prog 59 #[.pointer (some ⟨g, 0, none⟩)] w fun e w' => e = .returned (.bool (decide (D.n ≤ 69))) ∧ w' = w := by
  have SC := Aside0.mk (sect_calls g B D w h)
  clear h
  go_enter Try.func59, Try.ntmps59
  go_wp2_with fail
  refine SC.out.mono ?_
  rintro e w' ⟨rfl, rfl⟩
  go_wp2_with fail
  go_ret
  exact ⟨rfl, rfl⟩

def formatD (D : DS) : Int × DS := if D.n ≤ 69 then (2, D) else laysD (headL 0 0) D
set_option maxHeartbeats 4000000 in
set_option maxRecDepth 100000 in
theorem format_calls (g : Nat) (B : Nat → Prop) (D : DS) (w : World) (i : Nat) (h : IsDisk w B g D) (ho : JOk i D) (hi : i ≤ 400000) :
    Calls Try.prog 34 #[.pointer (some ⟨g, 0, none⟩)] w fun e w' => e = .returned (.int .i64 (formatD D).1) ∧ Moved w B g w' (formatD D).2 := by
  have SC := Aside0.mk (small_calls g B D w h)
  have HC := Aside0.mk (head_lays 0 0 ⟨by omega, by omega⟩ g B D w i h ho hi)
  by_cases hn : D.n ≤ 69
  · have hd : decide (D.n ≤ 69) = true := by simpa using hn
    rw [hd] at SC
    have HR : Aside0 (formatD D = (2, D)) := ⟨by unfold formatD; rw [if_pos hn]⟩
    have M := Aside0.mk (Moved.refl h)
    clear h ho hn hd HC
    go_enter Try.func34, Try.ntmps34
    go_wp2_with fail
    refine SC.out.mono ?_
    rintro e w' ⟨rfl, rfl⟩
    go_wp2_with fail
    go_ret
    rw [HR.out]
    exact ⟨rfl, M.out⟩
  · have hd : decide (D.n ≤ 69) = false := by simpa using hn
    rw [hd] at SC
    have HR : Aside0 (formatD D = laysD (headL 0 0) D) := ⟨by unfold formatD; rw [if_neg hn]⟩
    clear h ho hn hd
    go_enter Try.func34, Try.ntmps34
    go_wp2_with fail
    refine SC.out.mono ?_
    rintro e w' ⟨rfl, rfl⟩
    go_wp2_with fail
    refine HC.out.mono ?_
    rintro e w1 ⟨A, c, rfl, _, hc⟩
    have LC := Aside0.mk hc
    clear hc
    go_wp2_with fail
    refine LC.out.mono ?_
    rintro e w2 ⟨rfl, m⟩
    have M := Aside0.mk m
    clear m
    go_wp2_with fail
    go_ret
    rw [HR.out]
    exact ⟨rfl, M.out⟩

/-! ### The closures of commit -/
def chunkD (a : Int) : Nat → List Int → List (Int × List Int)
  | 0, _ => []
  | n + 1, L => (a, L.take 64) :: chunkD (a + 1) n (L.drop 64)
theorem chunkD_length (a : Int) : ∀ (n : Nat) (L : List Int), (chunkD a n L).length = n
  | 0, _ => rfl
  | n + 1, L => by rw [chunkD, List.length_cons, chunkD_length]
/-- A journal in memory: its disk, and whether it is down. -/
def IsLog (w : World) (lb g : Nat) (dn : Bool) : Prop := w.heap[lb]? = some (.cells #[.pointer (some ⟨g, 0, none⟩), .bool dn] 104 (0, 0))
theorem IsLog.kept {w w' : World} {lb g : Nat} {dn : Bool} (h : IsLog w lb g dn) (hk : w'.heap[lb]? = w.heap[lb]?) : IsLog w' lb g dn := hk.trans h
theorem IsLog.lt {w : World} {lb g : Nat} {dn : Bool} (h : IsLog w lb g dn) : lb < w.heap.size := (Array.getElem?_eq_some_iff.1 h).1
theorem IsLog.cells {w : World} {lb g : Nat} {dn : Bool} (h : IsLog w lb g dn) : w.cell? ⟨lb, 0, none⟩ = some (.pointer (some ⟨g, 0, none⟩)) ∧ w.cell? ⟨lb, 1, none⟩ = some (.bool dn) ∧ w.frozen? ⟨lb, 1, none⟩ = false := by
  refine ⟨?_, ?_, frozen_of_row w lb 1 _ 104 h⟩ <;> rw [cell_of_row w lb _ _ 104 (0, 0) h] <;> rfl

theorem cut64 (A : Addr) (m cp k : Nat) (hk : k * 64 + 64 ≤ cp) (W : World) :
    (Instr.slice 22 (.slice (some A) m cp) (some (.int .i64 ((k : Int) * 64))) (some (.int .i64 ((k : Int) * 64 + 64))) none).run Try.prog W = .ok (.slice (some (A.add (k * 64))) 64 (cp - k * 64)) W := by
  have hel : Try.prog.elem 22 = 5 := by simp [Program.elem, Try.underlying22]
  have hu : Try.prog.underlying 22 = some (.slice (Try.prog.elem 22)) := by rw [hel]; exact Try.underlying22
  obtain ⟨i0, hi0, hzz⟩ := Option.map_eq_some_iff.1 info5
  simp only [Prod.mk.injEq] at hzz
  rw [run_slice_lh W 22 (some A) m cp hu .i64 .i64 _ _ (by omega) (by omega) (by omega), hel]
  have e1 : ((k : Int) * 64).toNat = k * 64 := by omega
  have e2 : ((k : Int) * 64 + 64).toNat = k * 64 + 64 := by omega
  have e3 : ¬ cp = k * 64 := by omega
  have e4 : k * 64 + 64 - k * 64 = 64 := by omega
  simp [sizeOf, typeInfo, hi0, hzz.2.1, sliced, Result.andThen, e1, e2, e3, e4]

set_option maxHeartbeats 4000000 in
set_option maxRecDepth 100000 in
theorem lay_calls (g : Nat) (B : Nat → Prop) (D : DS) (A : Addr) (cp n : Nat) (at0 : Int) (L : List Int) (n0 n1 n2 lb : Nat) (w : World) (i : Nat) (h : IsDisk w B g D) (ho : JOk i D) (hi : i + n ≤ 400000) (hn : L.length = n * 64) (hat : 0 ≤ at0 ∧ at0 ≤ 1000) (hcp : n * 64 ≤ cp)
    (c0 : w.cell? ⟨n0, 0, none⟩ = some (.slice (some A) (n * 64) cp)) (c1 : w.cell? ⟨n1, 0, none⟩ = some (.pointer (some ⟨lb, 0, none⟩))) (c2 : w.cell? ⟨n2, 0, none⟩ = some (.int .i64 at0)) (c3 : w.cell? ⟨lb, 0, none⟩ = some (.pointer (some ⟨g, 0, none⟩)))
    (b0 : ¬ B n0) (b1 : ¬ B n1) (b2 : ¬ B n2) (b3 : ¬ B lb) (hl : ∀ W', Fr B w W' → Kd.C (Kd.int .u8) W' (some A) (n * 64) L) :
    Calls Try.prog 77 #[.pointer (some ⟨n0, 0, none⟩), .pointer (some ⟨n1, 0, none⟩), .pointer (some ⟨n2, 0, none⟩)] w fun e w' => e = .returned (.int .i64 (writesD (chunkD at0 n L) D).1) ∧ Moved w B g w' (writesD (chunkD at0 n L) D).2 := by
  have HN := Aside0.mk hn
  have HL := Aside0.mk hl
  have H0 : Aside0 (∃ D', Moved w B g w D' ∧ JOk (i + 0) D' ∧ writesD (chunkD at0 n L) D = writesD (chunkD (at0 + (0 : Nat)) (n - 0) (L.drop (0 * 64))) D') := ⟨⟨D, Moved.refl h, ho, by simp⟩⟩
  have HI0 := Aside0.mk hi
  have hn5 : n ≤ 400000 := by omega
  have C0 := Aside0.mk c0
  have C1 := Aside0.mk c1
  have C2 := Aside0.mk c2
  have C3 := Aside0.mk c3
  clear hl hn h ho hi c0 c1 c2 c3
  go_enter Try.func77, Try.ntmps77
  go_wp2_with fail
  go_loopg [4] n (fun kq v4 w' => ∃ (k : Nat), v4 = .int .i64 ((k : Int) * 64) ∧ Aside0 (k + kq = n) ∧ Aside0 (∃ D', Moved w B g w' D' ∧ JOk (i + k) D' ∧ writesD (chunkD at0 n L) D = writesD (chunkD (at0 + (k : Nat)) (n - k) (L.drop (k * 64))) D'))
  case atStart => exact ⟨0, rfl, ⟨by omega⟩, H0⟩
  case round =>
    clear H0
    obtain ⟨k, rfl, HI, H1⟩ := hrel
    have hk0 : (0 : Int) ≤ (k : Int) := by omega
    obtain ⟨D', ⟨B', h', hs', f'⟩, ho', he'⟩ := H1.out
    have g0 := cellB f' b0 C0.out
    have g1 := cellB f' b1 C1.out
    have g2 := cellB f' b2 C2.out
    have g3 := cellB f' b3 C3.out
    cases gk with
    | zero =>
      have hk : k = n := by have := HI.out; omega
      subst hk
      have he2 : writesD (chunkD at0 k L) D = (0, D') := by rw [he', Nat.sub_self]; rfl
      have M := Aside0.mk (⟨B', h', hs', f'⟩ : Moved w B g wr D')
      have HE2 := Aside0.mk he2
      clear h' hs' f' ho' he' he2 H1
      go_wp2_with fail
      go_ret
      rw [HE2.out]
      exact ⟨rfl, M.out⟩
    | succ k1 =>
      have hk1 : (k : Int) + 1 ≤ (n : Int) := by have := HI.out; omega
      have hk2 : k < n := by omega
      have HI3 : Aside0 (k + 1 + k1 = n) := ⟨by have := HI.out; omega⟩
      have HE' := Aside0.mk he'
      have HH := Aside0.mk h'
      have HS := Aside0.mk hs'
      have HF := Aside0.mk f'
      have HO := Aside0.mk ho'
      clear h' hs' f' ho' he' H1
      obtain ⟨Lk, hLk⟩ : ∃ Lk, (L.drop (k * 64)).take 64 = Lk := ⟨_, rfl⟩
      have hlk : Lk.length = 64 := by rw [← hLk, List.length_take, List.length_drop, HN.out]; omega
      have HC : Aside0 (∀ W, Fr B w W → Kd.C (Kd.int .u8) W (some (A.add (k * 64))) 64 Lk) := ⟨fun W f => by
        have h1 := HL.out W f
        rw [← HN.out] at h1
        have h2 := Kd.C_drop (c := L.length + 1) h1 (m := k * 64) (by rw [HN.out]; omega) (by omega)
        rw [if_neg (by rw [HN.out]; omega)] at h2
        have h3 := Kd.C_take h2 (m := 64) (by rw [List.length_drop, HN.out]; omega)
        rw [hLk, hlk] at h3
        have : (Kd.int IntKind.u8).sz = 1 := rfl
        simpa [this] using h3⟩
      have HLk := Aside0.mk hlk
      have HE3 : Aside0 (writesD (chunkD (at0 + (k : Nat)) (n - k) (L.drop (k * 64))) D' = seqD (writeD D' (at0 + k) Lk) (writesD (chunkD (at0 + ((k + 1 : Nat) : Int)) (n - (k + 1)) (L.drop ((k + 1) * 64))))) := ⟨by
        rw [show n - k = (n - (k + 1)) + 1 by omega, chunkD, hLk, List.drop_drop, show k * 64 + 64 = (k + 1) * 64 by omega, show at0 + (k : Int) + 1 = at0 + ((k + 1 : Nat) : Int) by omega]
        rfl⟩
      have WC : Aside0 (∀ W, Fr (fun _ => False) wr W → Calls Try.prog 14 #[.pointer (some ⟨g, 0, none⟩), .int .i64 (at0 + k), .slice (some (A.add (k * 64))) 64 (cp - k * 64)] W fun e w' => e = .returned (.int .i64 (writeD D' (at0 + k) Lk).1) ∧ Moved w B g w' (writeD D' (at0 + k) Lk).2) := ⟨fun W f => by
        have hst : ∀ W', Fr B' W W' → Kd.C (Kd.int .u8) W' (some (A.add (k * 64))) Lk.length Lk := fun W' f' => by
          rw [HLk.out]
          exact HC.out W' (HF.out.trans (f'.trans (Fr.refl B' _) (fun _ h => .inl h) |> fun f2 => (f.mono (fun _ h => h.elim)).trans f2 (fun _ h => .inl h)) HS.out)
        have w1 := write_moved g B' D' (at0 + k) (some (A.add (k * 64))) (cp - k * 64) Lk W _ (HH.out.fr f (fun _ _ h => h)) HO.out (by have := HI0.out; omega) (WalkArith.wf_i64 (by omega)) (hst W (Fr.refl _ _)) (by rw [HLk.out]; omega) (stab_C (d := Kd.int .u8) (by decide) hst)
        rw [HLk.out] at w1
        exact w1.mono fun e w' ⟨he, m⟩ => ⟨he, (m.ahead f).back HS.out HF.out⟩⟩
      clear hLk hlk
      have HO2 := Aside0.mk (HO.out.write (at0 + k) Lk)
      go_wp2_with fail
      have q1 : IntKind.i64.wrap ((k : Int) * 64 + 64) = (k : Int) * 64 + 64 := IntWalk.i64_in _ (by omega)
      have q2 : ((k : Int) * 64).tdiv 64 = k := by rw [Int.mul_tdiv_cancel _ (by decide)]
      have q3 : IntKind.i64.wrap (at0 + (k : Int)) = at0 + k := IntWalk.i64_in _ (by omega)
      have q4 : IntKind.i64.wrap (k : Int) = k := IntWalk.i64_in _ (by omega)
      have q5 : ((k : Int) * 64).toNat = k * 64 := by omega
      have q6 : ((k : Int) * 64 + 64).toNat = k * 64 + 64 := by omega
      have q7 : (0 : Int) ≤ (k : Int) * 64 := by omega
      have q8 : k * 64 + 64 ≤ cp := by omega
      have q9 := cut64 A (n * 64) cp k q8
      go_region_held3 (fun W => W.cell? ⟨n0, 0, none⟩ = some (.slice (some A) (n * 64) cp) ∧ W.cell? ⟨n1, 0, none⟩ = some (.pointer (some ⟨lb, 0, none⟩)) ∧ W.cell? ⟨n2, 0, none⟩ = some (.int .i64 at0) ∧ W.cell? ⟨lb, 0, none⟩ = some (.pointer (some ⟨g, 0, none⟩))) (first | exact ⟨g0, g1, g2, g3⟩ | exact S5.out) (first
        | (go_at_call 14; refine (WC.out _ (Fr.refl _ _).drew).mono ?_; rintro e w5 ⟨rfl, m⟩; have M := Aside0.mk m; have S5 := Aside0.mk (And.intro (cellB m.fr b0 C0.out) (And.intro (cellB m.fr b1 C1.out) (And.intro (cellB m.fr b2 C2.out) (cellB m.fr b3 C3.out)))); clear m))
      clear q1 q2 q3 q4 q5 q6 q8 q9 WC HC g0 g1 g2 g3 S5
      obtain ⟨e0, he0⟩ : ∃ e0, (writeD D' (at0 + k) Lk).1 = e0 := ⟨_, rfl⟩
      have HE0 := Aside0.mk he0
      rw [he0]
      clear he0
      by_cases hz : e0 = 0
      · subst hz
        have H2 : Aside0 (∃ D', Moved w B g w5 D' ∧ JOk (i + (k + 1)) D' ∧ writesD (chunkD at0 n L) D = writesD (chunkD (at0 + ((k + 1 : Nat) : Int)) (n - (k + 1)) (L.drop ((k + 1) * 64))) D') := ⟨⟨_, M.out, HO2.out, by rw [HE'.out, HE3.out, seqD, if_pos HE0.out]⟩⟩
        clear M HO2 HE3 HE' HE0
        go_wp2_with fail
        go_roundg k1
        case measure => omega
        case rel => exact ⟨k + 1, by rw [show (((k + 1 : Nat) : Int)) * 64 = (k : Int) * 64 + 64 by omega], HI3, H2⟩
      · have hq : Aside0 (writesD (chunkD at0 n L) D = writeD D' (at0 + k) Lk) := ⟨by rw [HE'.out, HE3.out, seqD, if_neg (by rw [HE0.out]; exact hz)]⟩
        have e1 : (e0 != 0) = true := by simpa using hz
        clear HE3 HE' HO2
        go_wp2_with fail
        go_ret
        rw [hq.out]
        exact ⟨by rw [HE0.out]; rfl, M.out⟩

set_option maxHeartbeats 4000000 in
set_option maxRecDepth 100000 in
theorem com2_calls (g : Nat) (B : Nat → Prop) (D : DS) (A : Option Addr) (cp n : Nat) (s : Int) (n0 n1 n2 lb : Nat) (w : World) (i : Nat) (h : IsDisk w B g D) (ho : JOk i D) (hi : i ≤ 400000) (hn : n ≤ 1000)
    (c0 : w.cell? ⟨n0, 0, none⟩ = some (.pointer (some ⟨lb, 0, none⟩))) (c1 : w.cell? ⟨n1, 0, none⟩ = some (.slice A n cp)) (c2 : w.cell? ⟨n2, 0, none⟩ = some (.int .u32 s)) (c3 : w.cell? ⟨lb, 0, none⟩ = some (.pointer (some ⟨g, 0, none⟩)))
    (b0 : ¬ B n0) (b1 : ¬ B n1) (b2 : ¬ B n2) (b3 : ¬ B lb) :
    Calls Try.prog 79 #[.pointer (some ⟨n0, 0, none⟩), .pointer (some ⟨n1, 0, none⟩), .pointer (some ⟨n2, 0, none⟩)] w fun e w' => e = .returned (.int .i64 (laysD (headL n s) D).1) ∧ Moved w B g w' (laysD (headL n s) D).2 := by
  have HC : Aside0 (∀ W, Fr (fun _ => False) w W → Calls Try.prog 62 #[.int .i64 (n : Int), .int .u32 s] W fun e w' => ∃ A c, e = .returned (.slice A 64 c) ∧ Fr (fun _ => False) w w' ∧
      Calls Try.prog 65 #[.pointer (some ⟨g, 0, none⟩), .slice A 64 c] w' fun e w'' => e = .returned (.int .i64 (laysD (headL n s) D).1) ∧ Moved w B g w'' (laysD (headL n s) D).2) := ⟨fun W f => by
    refine (head_lays n s ⟨by omega, by omega⟩ g B D W i (h.fr f (fun _ _ h => h)) ho hi).mono ?_
    rintro e w' ⟨A, c, rfl, f', hc⟩
    exact ⟨A, c, rfl, f.trans f' (fun _ h => h.elim), hc.mono fun e w'' ⟨he, m⟩ => ⟨he, m.ahead f⟩⟩⟩
  have S0 := Aside0.mk (And.intro c0 (And.intro c1 (And.intro c2 c3)))
  clear h ho hi
  go_enter Try.func79, Try.ntmps79
  go_wp2_with fail
  go_region_held3 (fun W => W.cell? ⟨n0, 0, none⟩ = some (.pointer (some ⟨lb, 0, none⟩)) ∧ W.cell? ⟨n1, 0, none⟩ = some (.slice A n cp) ∧ W.cell? ⟨n2, 0, none⟩ = some (.int .u32 s) ∧ W.cell? ⟨lb, 0, none⟩ = some (.pointer (some ⟨g, 0, none⟩))) (first | exact S0.out | exact S4.out | exact S5.out) (first
    | (go_at_call 62; refine (HC.out _ (Fr.refl _ _).drew).mono ?_; rintro e w4 ⟨A4, c4, rfl, hf4, hc4⟩; have S4 := Aside0.mk (And.intro (cellK hf4 S0.out.1) (And.intro (cellK hf4 S0.out.2.1) (And.intro (cellK hf4 S0.out.2.2.1) (cellK hf4 S0.out.2.2.2)))); have H65 := Aside0.mk hc4; clear hf4 hc4)
    | (go_at_call 65; refine H65.out.mono ?_; rintro e w5 ⟨rfl, m⟩; have M := Aside0.mk m; have S5 := Aside0.mk (And.intro (cellB m.fr b0 S0.out.1) (And.intro (cellB m.fr b1 S0.out.2.1) (And.intro (cellB m.fr b2 S0.out.2.2.1) (cellB m.fr b3 S0.out.2.2.2)))); clear m))
  all_goals (
    go_wp2_with fail
    go_ret
    exact ⟨rfl, M.out⟩)

set_option maxHeartbeats 4000000 in
set_option maxRecDepth 100000 in
theorem com3_calls (g : Nat) (B : Nat → Prop) (D : DS) (A : Option Addr) (cp n : Nat) (l : List S102) (n0 n1 lb : Nat) (w : World) (i : Nat) (h : IsDisk w B g D) (ho : JOk i D) (hi : i + n ≤ 300000) (hn : l.length = n)
    (c0 : w.cell? ⟨n0, 0, none⟩ = some (.pointer (some ⟨lb, 0, none⟩))) (c1 : w.cell? ⟨n1, 0, none⟩ = some (.slice A n cp)) (c3 : w.cell? ⟨lb, 0, none⟩ = some (.pointer (some ⟨g, 0, none⟩)))
    (b0 : ¬ B n0) (b1 : ¬ B n1) (b3 : ¬ B lb) (hl : ∀ W', Fr B w W' → Kd.C k102 W' A n l) (hr : ∀ x ∈ l, 0 ≤ x.f0 ∧ x.f0 ≤ 1000000) :
    Calls Try.prog 80 #[.pointer (some ⟨n0, 0, none⟩), .pointer (some ⟨n1, 0, none⟩)] w fun e w' => e = .returned (.int .i64 (finishD l D).1) ∧ Moved w B g w' (finishD l D).2 := by
  have FC : Aside0 (∀ W, Fr (fun _ => False) w W → Calls Try.prog 64 #[.pointer (some ⟨g, 0, none⟩), .slice A n cp] W fun e w' => e = .returned (.int .i64 (finishD l D).1) ∧ Moved w B g w' (finishD l D).2) := ⟨fun W f =>
    (finish_calls g B D A cp n l W i (h.fr f (fun _ _ h => h)) ho hi hn (fun W' f' => hl W' ((f.mono (fun _ h => h.elim)).trans f' (fun _ h => .inl h))) hr).mono fun e w' ⟨he, m⟩ => ⟨he, m.ahead f⟩⟩
  have S0 := Aside0.mk (And.intro c0 (And.intro c1 c3))
  clear h ho hi hl hr hn
  go_enter Try.func80, Try.ntmps80
  go_wp2_with fail
  go_region_held3 (fun W => W.cell? ⟨n0, 0, none⟩ = some (.pointer (some ⟨lb, 0, none⟩)) ∧ W.cell? ⟨n1, 0, none⟩ = some (.slice A n cp) ∧ W.cell? ⟨lb, 0, none⟩ = some (.pointer (some ⟨g, 0, none⟩))) (first | exact S0.out | exact S5.out) (first
    | (go_at_call 64; refine (FC.out _ (Fr.refl _ _).drew).mono ?_; rintro e w5 ⟨rfl, m⟩; have M := Aside0.mk m; have S5 := Aside0.mk (And.intro (cellB m.fr b0 S0.out.1) (And.intro (cellB m.fr b1 S0.out.2.1) (cellB m.fr b3 S0.out.2.2))); clear m))
  all_goals (
    go_wp2_with fail
    go_ret
    exact ⟨rfl, M.out⟩)
end Go.Proofs.Ytppgbfkhiofjiaa.X

namespace Go.Proofs.Ytppgbfkhiofjiaa.X
open Go.RowKit Go.Proofs.YtppgbfkhiofjiaaW.PrintWords Go.Proofs.YtppgbfkhiofjiaaW.PrintLast Go.Proofs.YtppgbfkhiofjiaaW.PrintMore Go.Proofs.Ytppgbfkhiofjiaa.Y
set_option linter.unusedVariables false
set_option linter.unusedSimpArgs false

def placesL (l : List S102) : List Int := l.flatMap fun x => fourL x.f0
def dataL (l : List S102) : List Int := l.flatMap fun x => x.f1
def sumV (l : List Int) : Int := bits .xor .u32 IntKind.u32.max (sumL 4294967295 l)
def padL (n : Nat) (p : List Int) : List Int := p ++ List.replicate ((64 - (n * 4) % 64) % 64) 0
def padN (n : Nat) : Nat := (n * 4 + 63) / 64
theorem placesL_length : ∀ l : List S102, (placesL l).length = l.length * 4
  | [] => rfl
  | x :: l => by
    rw [placesL, List.flatMap_cons, List.length_append]
    have := placesL_length l
    rw [placesL] at this
    rw [this, List.length_cons]
    show 4 + _ = _
    omega
theorem dataL_length : ∀ l : List S102, (∀ x ∈ l, x.f1.length = 64) → (dataL l).length = l.length * 64
  | [], _ => rfl
  | x :: l, h => by
    rw [dataL, List.flatMap_cons, List.length_append, h x (by simp)]
    have := dataL_length l (fun y hy => h y (by simp [hy]))
    rw [dataL] at this
    rw [this, List.length_cons]
    omega
theorem padL_length {n : Nat} {p : List Int} (h : p.length = n * 4) : (padL n p).length = padN n * 64 := by
  unfold padL padN
  rw [List.length_append, List.length_replicate, h]
  omega
/-- What a Commit does to a disk. -/
def commitD (l : List S102) (D : DS) : Int × DS :=
  runD [writesD (chunkD 5 l.length (dataL l)), writesD (chunkD 1 (padN l.length) (padL l.length (placesL l))), flushD, laysD (headL l.length (sumV (placesL l ++ dataL l))), finishD l] D
def comB (i n : Nat) : Nat → Nat
  | 0 => i
  | 1 => i + n
  | 2 => i + n + padN n
  | 3 => i + n + padN n + 1
  | 4 => i + n + padN n + 3
  | _ => i + n + padN n + 3 + n + 3
theorem padN_le {n : Nat} (h : n ≤ 64) : padN n ≤ 4 := by unfold padN; omega

theorem com_row (g : Nat) (B : Nat → Prop) (D : DS) (A : Option Addr) (cp n : Nat) (l : List S102) (s : Int) (A5 A6 : Addr) (c5 c6 : Nat) (P Dt : List Int) (n0 n1 n2 p1 q1 p2 q2 nr lb c : Nat) (W : World) (i : Nat) (h : IsDisk W B g D) (ho : JOk i D) (hi : i ≤ 200000) (hn : l.length = n) (hn64 : n ≤ 64)
    (hP : P.length = padN n * 64) (hDt : Dt.length = n * 64) (hc5 : padN n * 64 ≤ c5) (hc6 : n * 64 ≤ c6)
    (c0 : W.cell? ⟨n0, 0, none⟩ = some (.pointer (some ⟨lb, 0, none⟩))) (c1 : W.cell? ⟨n1, 0, none⟩ = some (.slice A n cp)) (c2 : W.cell? ⟨n2, 0, none⟩ = some (.int .u32 s)) (c3 : W.cell? ⟨lb, 0, none⟩ = some (.pointer (some ⟨g, 0, none⟩)))
    (e1 : W.cell? ⟨p1, 0, none⟩ = some (.slice (some A6) (n * 64) c6)) (e2 : W.cell? ⟨q1, 0, none⟩ = some (.int .i64 5)) (e3 : W.cell? ⟨p2, 0, none⟩ = some (.slice (some A5) (padN n * 64) c5)) (e4 : W.cell? ⟨q2, 0, none⟩ = some (.int .i64 1))
    (b0 : ¬ B n0) (b1 : ¬ B n1) (b2 : ¬ B n2) (b3 : ¬ B lb) (b4 : ¬ B p1) (b5 : ¬ B q1) (b6 : ¬ B p2) (b7 : ¬ B q2) (b8 : ¬ B nr)
    (d0 : W.cell? ⟨nr, 0, none⟩ = some (.func (.func 77) #[] #[.pointer (some ⟨p1, 0, none⟩), .pointer (some ⟨n0, 0, none⟩), .pointer (some ⟨q1, 0, none⟩)]))
    (d1 : W.cell? ⟨nr, 1, none⟩ = some (.func (.func 77) #[] #[.pointer (some ⟨p2, 0, none⟩), .pointer (some ⟨n0, 0, none⟩), .pointer (some ⟨q2, 0, none⟩)]))
    (d2 : W.cell? ⟨nr, 2, none⟩ = some (.func (.func 15) #[.pointer (some ⟨g, 0, none⟩)] #[]))
    (d3 : W.cell? ⟨nr, 3, none⟩ = some (.func (.func 79) #[] #[.pointer (some ⟨n0, 0, none⟩), .pointer (some ⟨n1, 0, none⟩), .pointer (some ⟨n2, 0, none⟩)]))
    (d4 : W.cell? ⟨nr, 4, none⟩ = some (.func (.func 80) #[] #[.pointer (some ⟨n0, 0, none⟩), .pointer (some ⟨n1, 0, none⟩)]))
    (hl : ∀ W', Fr B W W' → Kd.C k102 W' A n l) (hr : ∀ x ∈ l, 0 ≤ x.f0 ∧ x.f0 ≤ 1000000) (h5 : ∀ W', Fr B W W' → Kd.C (Kd.int .u8) W' (some A5) (padN n * 64) P) (h6 : ∀ W', Fr B W W' → Kd.C (Kd.int .u8) W' (some A6) (n * 64) Dt) :
    Calls Try.prog 78 #[.slice (some ⟨nr, 0, none⟩) 5 c] W fun e w' => e = .returned (.int .i64 (runD [writesD (chunkD 5 n Dt), writesD (chunkD 1 (padN n) P), flushD, laysD (headL n s), finishD l] D).1) ∧
      Moved W B g w' (runD [writesD (chunkD 5 n Dt), writesD (chunkD 1 (padN n) P), flushD, laysD (headL n s), finishD l] D).2 := by
  have hp4 := padN_le hn64
  have lt : ∀ {k : Nat} {v : Value}, W.cell? ⟨k, 0, none⟩ = some v → k < W.heap.size := fun h => World.block_lt_of_cell? _ _ h
  refine row_disk [(⟨77, #[], #[.pointer (some ⟨p1, 0, none⟩), .pointer (some ⟨n0, 0, none⟩), .pointer (some ⟨q1, 0, none⟩)]⟩, writesD (chunkD 5 n Dt)), (⟨77, #[], #[.pointer (some ⟨p2, 0, none⟩), .pointer (some ⟨n0, 0, none⟩), .pointer (some ⟨q2, 0, none⟩)]⟩, writesD (chunkD 1 (padN n) P)),
    (⟨15, #[.pointer (some ⟨g, 0, none⟩)], #[]⟩, flushD), (⟨79, #[], #[.pointer (some ⟨n0, 0, none⟩), .pointer (some ⟨n1, 0, none⟩), .pointer (some ⟨n2, 0, none⟩)]⟩, laysD (headL n s)), (⟨80, #[], #[.pointer (some ⟨n0, 0, none⟩), .pointer (some ⟨n1, 0, none⟩)]⟩, finishD l)] 5 rfl (by omega) ⟨nr, 0, none⟩ c W B g D
    (fun k D => JOk (comB i n k) D) ?_ b8 ?_ ?_ ?_ h ho
  · intro j s hs
    match j, hs with
    | 0, hs => obtain rfl := Option.some.inj hs; exact d0
    | 1, hs => obtain rfl := Option.some.inj hs; exact d1
    | 2, hs => obtain rfl := Option.some.inj hs; exact d2
    | 3, hs => obtain rfl := Option.some.inj hs; exact d3
    | 4, hs => obtain rfl := Option.some.inj hs; exact d4
  · intro j s hs
    match j, hs with
    | 0, hs => obtain rfl := Option.some.inj hs; exact ent77
    | 1, hs => obtain rfl := Option.some.inj hs; exact ent77
    | 2, hs => obtain rfl := Option.some.inj hs; exact ent15
    | 3, hs => obtain rfl := Option.some.inj hs; exact ent79
    | 4, hs => obtain rfl := Option.some.inj hs; exact ent80
  · intro j s' W' D' hs hI m
    obtain ⟨B', h', hs', f'⟩ := m
    have nb : ∀ k, k < W.heap.size → ¬ B k → ¬ B' k := fun k hk hn hB' => (hs' k hB').elim hn (fun h => by omega)
    match j, hs with
    | 0, hs =>
      obtain rfl := Option.some.inj hs
      exact (lay_calls g B' D' A6 c6 n 5 Dt p1 n0 q1 lb W' i h' hI (by omega) hDt (by omega) hc6 (cellB f' b4 e1) (cellB f' b0 c0) (cellB f' b5 e2) (cellB f' b3 c3) (nb _ (lt e1) b4) (nb _ (lt c0) b0) (nb _ (lt e2) b5) (nb _ (lt c3) b3) (fun W'' f'' => h6 W'' (f'.trans f'' hs'))).mono fun e w' ⟨he, m'⟩ => ⟨he, m'.back hs' f'⟩
    | 1, hs =>
      obtain rfl := Option.some.inj hs
      exact (lay_calls g B' D' A5 c5 (padN n) 1 P p2 n0 q2 lb W' (i + n) h' hI (by omega) hP (by omega) hc5 (cellB f' b6 e3) (cellB f' b0 c0) (cellB f' b7 e4) (cellB f' b3 c3) (nb _ (lt e3) b6) (nb _ (lt c0) b0) (nb _ (lt e4) b7) (nb _ (lt c3) b3) (fun W'' f'' => h5 W'' (f'.trans f'' hs'))).mono fun e w' ⟨he, m'⟩ => ⟨he, m'.back hs' f'⟩
    | 2, hs =>
      obtain rfl := Option.some.inj hs
      exact (flush_moved g B' D' W' (i + n + padN n) h' hI (by omega)).mono fun e w' ⟨he, m'⟩ => ⟨he, m'.back hs' f'⟩
    | 3, hs =>
      obtain rfl := Option.some.inj hs
      exact (com2_calls g B' D' A cp n s n0 n1 n2 lb W' (i + n + padN n + 1) h' hI (by omega) (by omega) (cellB f' b0 c0) (cellB f' b1 c1) (cellB f' b2 c2) (cellB f' b3 c3) (nb _ (lt c0) b0) (nb _ (lt c1) b1) (nb _ (lt c2) b2) (nb _ (lt c3) b3)).mono fun e w' ⟨he, m'⟩ => ⟨he, m'.back hs' f'⟩
    | 4, hs =>
      obtain rfl := Option.some.inj hs
      exact (com3_calls g B' D' A cp n l n0 n1 lb W' (i + n + padN n + 3) h' hI (by omega) hn (cellB f' b0 c0) (cellB f' b1 c1) (cellB f' b3 c3) (nb _ (lt c0) b0) (nb _ (lt c1) b1) (nb _ (lt c3) b3) (fun W'' f'' => hl W'' (f'.trans f'' hs')) hr).mono fun e w' ⟨he, m'⟩ => ⟨he, m'.back hs' f'⟩
  · intro j s' D' hs hI
    match j, hs with
    | 0, hs =>
      obtain rfl := Option.some.inj hs
      have := JOk.writes (chunkD 5 n Dt) (i := i) hI
      rwa [chunkD_length] at this
    | 1, hs =>
      obtain rfl := Option.some.inj hs
      have := JOk.writes (chunkD 1 (padN n) P) (i := i + n) hI
      rwa [chunkD_length] at this
    | 2, hs => obtain rfl := Option.some.inj hs; exact JOk.flush (i := i + n + padN n) hI
    | 3, hs => obtain rfl := Option.some.inj hs; exact JOk.lays (i := i + n + padN n + 1) hI _
    | 4, hs =>
      obtain rfl := Option.some.inj hs
      have := JOk.finish (i := i + n + padN n + 3) hI l
      rwa [hn] at this
theorem JOk.commit {i : Nat} {D : DS} (h : JOk i D) (l : List S102) (hn : l.length ≤ 64) : JOk (i + 150) (commitD l D).2 := by
  have hp := padN_le hn
  have h1 := JOk.writes (chunkD 5 l.length (dataL l)) h
  rw [chunkD_length] at h1
  refine JOk.mono (i := i + l.length + padN l.length + 3 + l.length + 3) ?_ (by omega)
  exact JOk.seq (j := 0) h1 (fun h1 => JOk.seq (j := 0) (i := i + l.length + padN l.length) (by have := JOk.writes (chunkD 1 (padN l.length) (padL l.length (placesL l))) h1; rwa [chunkD_length] at this)
    (fun h2 => JOk.seq (j := 0) h2.flush (fun h3 => JOk.seq (j := 0) (h3.lays _) (fun h4 => JOk.seq (j := 0) (h4.finish l) (fun h5 => h5) (by omega)) (by omega)) (by omega)) (by omega)) (by omega)
end Go.Proofs.Ytppgbfkhiofjiaa.X

namespace Go.Proofs.Ytppgbfkhiofjiaa.X
open Go.RowKit Go.Proofs.YtppgbfkhiofjiaaW.PrintWords
set_option linter.unusedVariables false

theorem rsum_calls (A : Option Addr) (c : Nat) (l : List Int) (w : World) (hC : Kd.C (Kd.int .u8) w A l.length l) (hc : l.length ≤ c) :
    Calls Try.prog 11 #[.slice A l.length c] w fun e w' => e = .returned (.int .u32 (sumV l)) ∧ Fr (fun _ => False) w w' := by
  obtain ⟨k, r, h1, h2⟩ := sums_agree l hC.2.1
  have e : sumV l = r := Option.some.inj h1
  rw [e]
  refine (redlineref24_Sum.calls k A c l r w hC hc h2).mono ?_
  rintro e w' ⟨rfl, hb⟩
  exact ⟨rfl, Fr.of_drawn hb _⟩
end Go.Proofs.Ytppgbfkhiofjiaa.X

namespace Go.Proofs.Ytppgbfkhiofjiaa.X
open Go.RowKit Go.Proofs.YtppgbfkhiofjiaaW.PrintWords Go.Proofs.YtppgbfkhiofjiaaW.PrintLast Go.Proofs.YtppgbfkhiofjiaaW.PrintMore Go.Proofs.Ytppgbfkhiofjiaa.Y
set_option linter.unusedVariables false
set_option linter.unusedSimpArgs false

set_option maxHeartbeats 4000000 in
set_option maxRecDepth 100000 in
theorem bclone_calls (A : Addr) (c n : Nat) (l : List Int) (w : World) (hn : l.length = n) (hn9 : n ≤ 1000000) (hC : Kd.C (Kd.int .u8) w (some A) n l) :
    Calls Try.prog 75 #[.slice (some A) n c] w fun e w' => ∃ v, e = .returned v ∧ w'.ownsRow w.heap.size 5 1 v l.length (nums .u8 l) ∧ Below w.heap.size w w' := by
  have HR := Aside0.mk (Kd.reads_of_C (enc := Value.int .u8) (d := (0 : Int)) (h1 := fun _ => rfl) hC)
  have HN := Aside0.mk hn
  have HB0 : Aside0 (Below w.heap.size w (w.alloc (.cells #[] 5))) := ⟨(Below.refl _ _).alloc (Nat.le_refl _) _⟩
  have HO0 : Aside0 ((w.alloc (.cells #[] 5)).ownsRow w.heap.size 5 1 (.slice (some ⟨w.heap.size, 0, none⟩) 0 0) ([] : List Int).length (nums .u8 [])) := ⟨⟨rfl, .inr ⟨w.heap.size, 0, #[], rfl, Nat.le_refl _, heap_alloc_new _ _, Nat.le_refl _, by decide, rfl, rfl⟩⟩⟩
  have HR1 : Aside0 (ReadsInt (w.alloc (.cells #[] 5)) .u8 (some A) n l) := ⟨HR.out.below HB0.out⟩
  have hnil : ∀ W : World, (binOp .eql 22 (.slice (some A) n c) (.slice none 0 0)).run Try.prog W = .ok (.bool false) W := fun W => Lib.run_eql_slice_nil W 22 5 (some A) n c 0 0 Try.underlying22
  clear hC hn
  go_enter Try.func75, Try.ntmps75
  go_wp2_with ((with_reducible refine gate_builtin (b := .append) (xs := #[.tmp 5, .tmp 6]) rfl ?_); at_builtin; refine print_append_row w.heap.size rfl (.tmp 5) (.tmp 6) 22 5 .u8 1 rfl Try.underlying22 info5 (by omega) (.slice (some ⟨w.heap.size, 0, none⟩) 0 0) [] l (some A) n c rfl rfl HO0.out HR1.out HB0.out (by simp) (by simp; omega) ?_; intro v1 w1 h1 h2 h3 h4)
  go_ret
  exact ⟨v1, rfl, by simpa using h1, h2⟩
theorem four_f {l : List Int} {a : Int} (h : l.length ≤ 1000000) : journal_four.f l a = some (l ++ fourL a) := by
  unfold journal_four.f fourL
  rw [Option.bind_some, if_pos (by simp only [List.length_cons, List.length_nil]; omega)]

set_option maxHeartbeats 4000000 in
set_option maxRecDepth 100000 in
theorem mk_calls (at0 : Int) (A : Option Addr) (n c n0 : Nat) (W : World) :
    Calls Try.prog 76 #[.int .i64 at0, .slice A n c, .pointer (some ⟨n0, 0, none⟩)] W fun e w' => ∃ p q, e = .returned (.func (.func 77) #[] #[.pointer (some ⟨p, 0, none⟩), .pointer (some ⟨n0, 0, none⟩), .pointer (some ⟨q, 0, none⟩)]) ∧ W.heap.size ≤ p ∧ W.heap.size ≤ q ∧
      w'.cell? ⟨p, 0, none⟩ = some (.slice A n c) ∧ w'.cell? ⟨q, 0, none⟩ = some (.int .i64 at0) ∧ Below W.heap.size W w' := by
  have e1 : (W.alloc (.cells #[.int .i64 at0] 3)).heap.size = W.heap.size + 1 := by simp
  have h0 : ((W.alloc (.cells #[.int .i64 at0] 3)).alloc (.cells #[.slice A n c] 22)).heap[W.heap.size]? = some (.cells #[.int .i64 at0] 3 (0, 0)) := by
    rw [Below.heap_alloc _ _ _ (by rw [e1]; omega)]
    exact heap_alloc_new _ _
  have h1 : ((W.alloc (.cells #[.int .i64 at0] 3)).alloc (.cells #[.slice A n c] 22)).heap[W.heap.size + 1]? = some (.cells #[.slice A n c] 22 (0, 0)) := by
    rw [← e1]
    exact heap_alloc_new _ _
  have H := Aside0.mk (And.intro ((cell_of_row _ _ 0 _ _ _ h1).trans rfl) ((cell_of_row _ _ 0 _ _ _ h0).trans rfl))
  have HB : Aside0 (Below W.heap.size W ((W.alloc (.cells #[.int .i64 at0] 3)).alloc (.cells #[.slice A n c] 22))) := ⟨((Below.refl _ _).alloc (Nat.le_refl _) _).alloc (by simp) _⟩
  clear e1 h0 h1
  go_enter Try.func76, Try.ntmps76
  go_wp2_with fail
  go_ret
  exact ⟨W.heap.size + 1, W.heap.size, rfl, by omega, by omega, H.out.1, H.out.2, HB.out⟩

theorem drew_below (W : World) (w6 : World) (h : Below W.drew.heap.size W.drew w6) : Below W.heap.size W w6 := ⟨h.os, h.tape, h.output, h.size, h.block⟩
theorem com_tail (e0 : Int) (D0 : DS) (lb g : Nat) (dn : Bool) (B : Nat → Prop) (D : DS) (A : Option Addr) (cp n : Nat) (l : List S102) (s : Int) (w W5 : World) (g5 g6 c5 c6 sb : Nat) (i : Nat) (h : IsDisk w B g D) (ho : JOk i D) (hi : i ≤ 200000) (hlog : IsLog w lb g dn) (hlb : ¬ B lb)
    (hn : l.length = n) (hn0 : 1 ≤ n) (hn64 : n ≤ 64) (hl : ∀ W', Fr B w W' → Kd.C k102 W' A n l) (hr : ∀ x ∈ l, 0 ≤ x.f0 ∧ x.f0 ≤ 1000000) (h64 : ∀ x ∈ l, x.f1.length = 64) (hs : sumV (placesL l ++ dataL l) = s) (hr0 : commitD l D = (e0, D0))
    (hB : Below w.heap.size w W5) (h5 : Kd.R (Kd.int .u8) 5 W5 w.heap.size (fun _ => True) (.slice (some ⟨g5, 0, none⟩) (padN n * 64) c5) (padL n (placesL l))) (h6 : W5.ownsRow w.heap.size 5 1 (.slice (some ⟨g6, 0, none⟩) (n * 64) c6) (dataL l).length (nums .u8 (dataL l)))
    (hc : W5.heap[w.heap.size]? = some (.cells #[.pointer (some ⟨lb, 0, none⟩)] 56 (0, 0)) ∧ W5.heap[w.heap.size + 1]? = some (.cells #[.slice A n cp] 60 (0, 0))) (hsb : W5.heap[sb]? = some (.cells #[.int .u32 s] 23 (0, 0))) (hsb0 : w.heap.size ≤ sb)
    (w7 : World) (p1 q1 p2 q2 : Nat) (hb7 : Below W5.heap.size W5 w7) (k1 : W5.heap.size ≤ p1) (k2 : W5.heap.size ≤ q1) (k3 : W5.heap.size ≤ p2) (k4 : W5.heap.size ≤ q2)
    (e1 : w7.cell? ⟨p1, 0, none⟩ = some (.slice (some ⟨g6, 0, none⟩) (n * 64) c6)) (e2 : w7.cell? ⟨q1, 0, none⟩ = some (.int .i64 5)) (e3 : w7.cell? ⟨p2, 0, none⟩ = some (.slice (some ⟨g5, 0, none⟩) (padN n * 64) c5)) (e4 : w7.cell? ⟨q2, 0, none⟩ = some (.int .i64 1)) :
    Calls Try.prog 78 #[.slice (some ⟨w7.heap.size, 0, none⟩) 5 5] (w7.alloc (.cells #[.func (.func 77) #[] #[.pointer (some ⟨p1, 0, none⟩), .pointer (some ⟨w.heap.size, 0, none⟩), .pointer (some ⟨q1, 0, none⟩)], .func (.func 77) #[] #[.pointer (some ⟨p2, 0, none⟩), .pointer (some ⟨w.heap.size, 0, none⟩), .pointer (some ⟨q2, 0, none⟩)], .func (.func 15) #[.pointer (some ⟨g, 0, none⟩)] #[], .func (.func 79) #[] #[.pointer (some ⟨w.heap.size, 0, none⟩), .pointer (some ⟨w.heap.size + 1, 0, none⟩), .pointer (some ⟨sb, 0, none⟩)], .func (.func 80) #[] #[.pointer (some ⟨w.heap.size, 0, none⟩), .pointer (some ⟨w.heap.size + 1, 0, none⟩)]] 38))
      fun e w' => e = .returned (.int .i64 e0) ∧ Moved w B g w' D0 ∧ ∀ (a : Addr) (v : Value), ¬ B a.block → w7.cell? a = some v → w'.cell? a = some v := by
  obtain ⟨W, hW⟩ : ∃ W, w7.alloc (.cells #[.func (.func 77) #[] #[.pointer (some ⟨p1, 0, none⟩), .pointer (some ⟨w.heap.size, 0, none⟩), .pointer (some ⟨q1, 0, none⟩)], .func (.func 77) #[] #[.pointer (some ⟨p2, 0, none⟩), .pointer (some ⟨w.heap.size, 0, none⟩), .pointer (some ⟨q2, 0, none⟩)], .func (.func 15) #[.pointer (some ⟨g, 0, none⟩)] #[], .func (.func 79) #[] #[.pointer (some ⟨w.heap.size, 0, none⟩), .pointer (some ⟨w.heap.size + 1, 0, none⟩), .pointer (some ⟨sb, 0, none⟩)], .func (.func 80) #[] #[.pointer (some ⟨w.heap.size, 0, none⟩), .pointer (some ⟨w.heap.size + 1, 0, none⟩)]] 38) = W := ⟨_, rfl⟩
  have hnr : W.heap[w7.heap.size]? = some (.cells #[.func (.func 77) #[] #[.pointer (some ⟨p1, 0, none⟩), .pointer (some ⟨w.heap.size, 0, none⟩), .pointer (some ⟨q1, 0, none⟩)], .func (.func 77) #[] #[.pointer (some ⟨p2, 0, none⟩), .pointer (some ⟨w.heap.size, 0, none⟩), .pointer (some ⟨q2, 0, none⟩)], .func (.func 15) #[.pointer (some ⟨g, 0, none⟩)] #[], .func (.func 79) #[] #[.pointer (some ⟨w.heap.size, 0, none⟩), .pointer (some ⟨w.heap.size + 1, 0, none⟩), .pointer (some ⟨sb, 0, none⟩)], .func (.func 80) #[] #[.pointer (some ⟨w.heap.size, 0, none⟩), .pointer (some ⟨w.heap.size + 1, 0, none⟩)]] 38 (0, 0)) := by rw [← hW]; exact heap_alloc_new _ _
  have hb8 : Below w7.heap.size w7 W := by rw [← hW]; exact (Below.refl _ _).alloc (Nat.le_refl _) _
  rw [hW]
  clear hW
  have hb58 : Below W5.heap.size W5 W := hb7.trans (hb8.mono hb7.size)
  have hb08 : Below w.heap.size w W := hB.trans (hb58.mono hB.size)
  have f0 : Fr (fun _ => False) w W := Fr.of_below hb08 _
  have hnB : ∀ k, w.heap.size ≤ k → ¬ B k := fun k hk hB => by have := h.lt k hB; omega
  have hsz := hB.size
  have b5 : ∀ {k : Nat} {cs : Array Value} {t : TypeId}, W5.heap[k]? = some (.cells cs t (0, 0)) → W.cell? ⟨k, 0, none⟩ = cs[0]? := fun {k cs t} hk => cell_of_row _ _ _ _ _ _ ((hb58.block k (Array.getElem?_eq_some_iff.1 hk).1).trans hk)
  have h5W : Kd.R (Kd.int .u8) 5 W w.heap.size (fun _ => True) (.slice (some ⟨g5, 0, none⟩) (padN n * 64) c5) (padL n (placesL l)) := Kd.R_below h5 hb58
  have h6W : Kd.R (Kd.int .u8) 5 W w.heap.size (fun _ => True) (.slice (some ⟨g6, 0, none⟩) (n * 64) c6) (dataL l) := Kd.R_below (Kd.R_of_own (enc := Value.int .u8) (h1 := fun _ => rfl) h6 (fun _ _ => trivial)) hb58
  have hP : (padL n (placesL l)).length = padN n * 64 := padL_length (by rw [placesL_length, hn])
  have hDt : (dataL l).length = n * 64 := by rw [dataL_length l h64, hn]
  obtain ⟨hc5, hst5⟩ := own_stable (W0 := w) h5W hP h.lt
  obtain ⟨hc6, hst6⟩ := own_stable (W0 := w) h6W hDt h.lt
  have RC := com_row g B D A cp n l s ⟨g5, 0, none⟩ ⟨g6, 0, none⟩ c5 c6 (padL n (placesL l)) (dataL l) w.heap.size (w.heap.size + 1) sb p1 q1 p2 q2 w7.heap.size lb 5 W i (h.fr f0 (fun _ _ h => h)) ho hi hn hn64 hP hDt hc5 hc6
    ((b5 hc.1).trans rfl) ((b5 hc.2).trans rfl) ((b5 hsb).trans rfl) (cellK f0 hlog.cells.1) (cell_later hb8 e1) (cell_later hb8 e2) (cell_later hb8 e3) (cell_later hb8 e4)
    (hnB _ (Nat.le_refl _)) (hnB _ (by omega)) (hnB _ hsb0) hlb (hnB _ (by omega)) (hnB _ (by omega)) (hnB _ (by omega)) (hnB _ (by omega)) (hnB _ (by have := hb7.size; omega))
    ((cell_of_row _ _ _ _ _ _ hnr).trans rfl) ((cell_of_row _ _ _ _ _ _ hnr).trans rfl) ((cell_of_row _ _ _ _ _ _ hnr).trans rfl) ((cell_of_row _ _ _ _ _ _ hnr).trans rfl) ((cell_of_row _ _ _ _ _ _ hnr).trans rfl)
    (fun W' f' => hl W' ((f0.mono (fun _ h => h.elim)).trans f' (fun _ h => .inl h))) hr hst5 hst6
  refine RC.mono fun e w' ⟨he, m⟩ => ?_
  have e : runD [writesD (chunkD 5 n (dataL l)), writesD (chunkD 1 (padN n) (padL n (placesL l))), flushD, laysD (headL n s), finishD l] D = commitD l D := by
    unfold commitD
    rw [hn, hs]
  rw [e, hr0] at he m
  exact ⟨he, m.ahead f0, fun a v ha hv => cellB m.fr ha (cell_later hb8 hv)⟩

set_option maxHeartbeats 8000000 in
set_option maxRecDepth 100000 in
theorem commit_calls (lb g : Nat) (dn : Bool) (B : Nat → Prop) (D : DS) (A : Option Addr) (cp n : Nat) (l : List S102) (w : World) (i : Nat) (h : IsDisk w B g D) (ho : JOk i D) (hi : i ≤ 200000) (hlog : IsLog w lb g dn) (hlb : ¬ B lb)
    (hn : l.length = n) (hn0 : 1 ≤ n) (hn64 : n ≤ 64) (hl : ∀ W', Fr B w W' → Kd.C k102 W' A n l) (hr : ∀ x ∈ l, 0 ≤ x.f0 ∧ x.f0 ≤ 1000000) (h64 : ∀ x ∈ l, x.f1.length = 64) :
    Calls Try.prog 58 #[.pointer (some ⟨lb, 0, none⟩), .slice A n cp] w fun e w' => e = .returned (.int .i64 (commitD l D).1) ∧ Moved w B g w' (commitD l D).2 := by
  obtain ⟨⟨e0, D0⟩, hr0⟩ : ∃ r, commitD l D = r := ⟨_, rfl⟩
  rw [hr0]
  dsimp only
  have HR0' := Aside0.mk hr0
  clear hr0
  have H := Aside0.mk h
  have HO := Aside0.mk ho
  have HLG := Aside0.mk hlog
  have HN := Aside0.mk hn
  have HL := Aside0.mk hl
  have HR := Aside0.mk hr
  have H64 := Aside0.mk h64
  have f2 : Fr (fun _ => False) w ((w.alloc (.cells #[.pointer (some ⟨lb, 0, none⟩)] 56)).alloc (.cells #[.slice A n cp] 60)) := ((Fr.refl _ _).alloc _).alloc _
  have HB0 : Aside0 (Below w.heap.size w ((w.alloc (.cells #[.pointer (some ⟨lb, 0, none⟩)] 56)).alloc (.cells #[.slice A n cp] 60))) := ⟨((Below.refl _ _).alloc (Nat.le_refl _) _).alloc (by simp) _⟩
  have HC0 : Aside0 (((w.alloc (.cells #[.pointer (some ⟨lb, 0, none⟩)] 56)).alloc (.cells #[.slice A n cp] 60)).heap[w.heap.size]? = some (.cells #[.pointer (some ⟨lb, 0, none⟩)] 56 (0, 0)) ∧ ((w.alloc (.cells #[.pointer (some ⟨lb, 0, none⟩)] 56)).alloc (.cells #[.slice A n cp] 60)).heap[w.heap.size + 1]? = some (.cells #[.slice A n cp] 60 (0, 0))) := ⟨by
    have e1 : (w.alloc (.cells #[.pointer (some ⟨lb, 0, none⟩)] 56)).heap.size = w.heap.size + 1 := by simp
    refine ⟨?_, ?_⟩
    · rw [Below.heap_alloc _ _ _ (by rw [e1]; omega)]
      exact heap_alloc_new _ _
    · rw [← e1]
      exact heap_alloc_new _ _⟩
  have HR0 : Aside0 (Kd.R (Kd.int .u8) 5 ((w.alloc (.cells #[.pointer (some ⟨lb, 0, none⟩)] 56)).alloc (.cells #[.slice A n cp] 60)) w.heap.size (fun b => some b = (Value.slice none 0 0).ownBlock) (.slice none 0 0) (placesL (l.take 0))) := ⟨Kd.R_nil _ _ _ _ _⟩
  have HW0 : Aside0 (((w.alloc (.cells #[.pointer (some ⟨lb, 0, none⟩)] 56)).alloc (.cells #[.slice A n cp] 60)).ownsRow w.heap.size 5 1 (.slice none 0 0) (dataL (l.take 0)).length (nums .u8 (dataL (l.take 0)))) := ⟨⟨rfl, .inl ⟨rfl, rfl⟩⟩⟩
  clear h ho hlog hn hl hr h64 f2
  go_enter Try.func58, Try.ntmps58
  go_wp2_with fail
  go_loopg [5, 6, 14] n (fun kq v5 v6 v14 W => ∃ (k : Nat), v14 = .int .i64 (k : Int) ∧ Aside0 (k + kq = n) ∧ Aside0 (Kd.R (Kd.int .u8) 5 W w.heap.size (fun b => some b = v5.ownBlock) v5 (placesL (l.take k))) ∧
    Aside0 (W.ownsRow w.heap.size 5 1 v6 (dataL (l.take k)).length (nums .u8 (dataL (l.take k)))) ∧ Aside0 (∀ b, v5.ownBlock = some b → v6.ownBlock ≠ some b) ∧ Aside0 (Below w.heap.size w W) ∧ Aside0 (W.heap[w.heap.size]? = some (.cells #[.pointer (some ⟨lb, 0, none⟩)] 56 (0, 0)) ∧ W.heap[w.heap.size + 1]? = some (.cells #[.slice A n cp] 60 (0, 0))))
  case atStart => exact ⟨0, rfl, ⟨by omega⟩, HR0, HW0, ⟨fun b e => by cases e⟩, HB0, HC0⟩
  case round =>
    clear HR0 HW0 HB0 HC0
    obtain ⟨k, rfl, HI, HR5, HR6, HAP, HB, HC⟩ := hrel
    have hk0 : (0 : Int) ≤ (k : Int) := by omega
    cases gk with
    | zero =>
      have hk : k = n := by have := HI.out; omega
      subst hk
      have htk : l.take k = l := List.take_of_length_le (by have := HN.out; omega)
      rw [htk] at HR5 HR6
      have hpl : (placesL l).length = k * 4 := by rw [placesL_length, HN.out]
      have hdl : (dataL l).length = k * 64 := by rw [dataL_length l H64.out, HN.out]
      obtain ⟨inner, ho5⟩ := Kd.R_own HR5.out
      rw [hpl] at ho5
      obtain ⟨g5, c5, rfl, _⟩ := ho5.form (by omega)
      have ho6 := HR6.out
      rw [hdl] at ho6
      obtain ⟨g6, c6, rfl, _⟩ := ho6.form (by omega)
      obtain ⟨A5, c5', e5, hcap5, hC5⟩ := Kd.R_reads HR5.out
      injection e5 with e5 e5a e5b
      subst e5 e5b
      clear e5a
      rw [hpl] at hC5 hcap5
      have BC := Aside0.mk (bclone_calls ⟨g5, 0, none⟩ c5 (k * 4) (placesL l) wr hpl (by omega) hC5)
      have HPL := Aside0.mk hpl
      have HDL := Aside0.mk hdl
      clear htk hpl hdl inner ho5 ho6 hcap5 hC5 HI
      have hne56 : g5 ≠ g6 := fun e => HAP.out g5 rfl (by rw [e]; rfl)
      clear HAP
      go_wp2_with fail
      refine BC.out.mono ?_
      rintro e w1 ⟨v1, rfl, ho1, hb1⟩
      have HO1 := Aside0.mk ho1
      have HB1 := Aside0.mk hb1
      have HR61 : Aside0 (ReadsInt w1 .u8 (some ⟨g6, 0, none⟩) (k * 64) (dataL l)) := ⟨by
        have h1 : w1.ownsRow w.heap.size 5 1 (.slice (some ⟨g6, 0, none⟩) (k * 64) c6) (dataL l).length (encs (Value.int .u8) (dataL l)) := ownsRow_kept HR6.out (fun b e => hb1.block b (own_lt HR6.out b e))
        obtain ⟨A', c', e', _, hC⟩ := Kd.R_reads (Kd.R_of_own (h1 := fun _ => rfl) (ok := fun _ => True) h1 (fun _ _ => trivial))
        rw [HDL.out] at e' hC
        injection e' with e' _ _
        subst e'
        exact Kd.reads_of_C (enc := Value.int .u8) (d := (0 : Int)) (h1 := fun _ => rfl) hC⟩
      clear ho1 hb1 BC
      go_wp2_with ((with_reducible refine gate_builtin (b := .append) (xs := #[.tmp 29, .tmp 30]) rfl ?_); at_builtin; refine print_append_row wr.heap.size rfl (.tmp 29) (.tmp 30) 22 5 .u8 1 rfl Try.underlying22 info5 (by omega) v1 (placesL l) (dataL l) (some ⟨g6, 0, none⟩) (k * 64) c6 rfl rfl HO1.out HR61.out HB1.out HB1.out.size (by have := HPL.out; omega) ?_; intro v2 w2 h1 h2 h3 h4)
      obtain ⟨A2, c2, rfl, hcap2, hC2⟩ := Kd.R_reads (Kd.R_of_own (enc := Value.int .u8) (h1 := fun _ => rfl) (ok := fun _ => True) h1 (fun _ _ => trivial))
      have SC := Aside0.mk (journal_Sum.calls A2 c2 (placesL l ++ dataL l) (sumV (placesL l ++ dataL l)) w2 hC2 hcap2 rfl)
      obtain ⟨s, hs⟩ : ∃ s, sumV (placesL l ++ dataL l) = s := ⟨_, rfl⟩
      rw [hs] at SC
      have HSU := Aside0.mk hs
      have HB2 := Aside0.mk h2
      clear h1 h2 h3 h4 hcap2 hC2 hs HO1 HB1 HR61
      have hm4 : (0 : Int) ≤ (k : Int) * 4 % 64 := by omega
      have hm5 : (k : Int) * 4 % 64 < 64 := by omega
      refine SC.out.mono ?_
      rintro e w3 ⟨rfl, ⟨nq, rfl⟩⟩
      clear SC
      have HBd : Aside0 (Below wr.heap.size wr (w2.drewN nq)) := ⟨HB2.out.trans ((Drawn0.below (⟨⟨nq, rfl⟩⟩ : Drawn0 w2 (w2.drewN nq))).mono HB2.out.size)⟩
      have HB3 : Aside0 (Below w.heap.size w (w2.drewN nq)) := ⟨HB.out.trans (HBd.out.mono HB.out.size)⟩
      have HR53 : Aside0 (Kd.R (Kd.int .u8) 5 (w2.drewN nq) w.heap.size (fun b => some b = (Value.slice (some ⟨g5, 0, none⟩) (k * 4) c5).ownBlock) (.slice (some ⟨g5, 0, none⟩) (k * 4) c5) (placesL l)) := ⟨Kd.R_below HR5.out HBd.out⟩
      have HR63 : Aside0 ((w2.drewN nq).ownsRow w.heap.size 5 1 (.slice (some ⟨g6, 0, none⟩) (k * 64) c6) (dataL l).length (nums .u8 (dataL l))) := ⟨ownsRow_kept HR6.out (fun b e => HB2.out.block b (own_lt HR6.out b e))⟩
      have HC3 : Aside0 ((w2.drewN nq).heap[w.heap.size]? = some (.cells #[.pointer (some ⟨lb, 0, none⟩)] 56 (0, 0)) ∧ (w2.drewN nq).heap[w.heap.size + 1]? = some (.cells #[.slice A k cp] 60 (0, 0))) := ⟨(HB2.out.block _ (Array.getElem?_eq_some_iff.1 HC.out.1).1).trans HC.out.1, (HB2.out.block _ (Array.getElem?_eq_some_iff.1 HC.out.2).1).trans HC.out.2⟩
      clear HB2 HBd HR5 HR6 HC HB
      generalize w2.drewN nq = W3 at *
      have wa : Below W3.heap.size W3 (W3.alloc (.cells #[.int .u32 s] 23)) := (Below.refl _ _).alloc (Nat.le_refl _) _
      have HB4 : Aside0 (Below w.heap.size w (W3.alloc (.cells #[.int .u32 s] 23))) := ⟨HB3.out.trans (wa.mono HB3.out.size)⟩
      have HR54 : Aside0 (Kd.R (Kd.int .u8) 5 (W3.alloc (.cells #[.int .u32 s] 23)) w.heap.size (fun b => some b = (Value.slice (some ⟨g5, 0, none⟩) (k * 4) c5).ownBlock ∨ W3.heap.size < b) (.slice (some ⟨g5, 0, none⟩) (k * 4) c5) (placesL l)) := ⟨Kd.R_mono (Kd.R_below HR53.out wa) (fun _ h => .inl h)⟩
      have HR64 : Aside0 ((W3.alloc (.cells #[.int .u32 s] 23)).ownsRow w.heap.size 5 1 (.slice (some ⟨g6, 0, none⟩) (k * 64) c6) (dataL l).length (nums .u8 (dataL l))) := ⟨ownsRow_kept HR63.out (fun b e => wa.block b (own_lt HR63.out b e))⟩
      have HC4 : Aside0 ((W3.alloc (.cells #[.int .u32 s] 23)).heap[w.heap.size]? = some (.cells #[.pointer (some ⟨lb, 0, none⟩)] 56 (0, 0)) ∧ (W3.alloc (.cells #[.int .u32 s] 23)).heap[w.heap.size + 1]? = some (.cells #[.slice A k cp] 60 (0, 0))) := ⟨(wa.block _ (Array.getElem?_eq_some_iff.1 HC3.out.1).1).trans HC3.out.1, (wa.block _ (Array.getElem?_eq_some_iff.1 HC3.out.2).1).trans HC3.out.2⟩
      have HS4 : Aside0 ((W3.alloc (.cells #[.int .u32 s] 23)).heap[W3.heap.size]? = some (.cells #[.int .u32 s] 23 (0, 0)) ∧ w.heap.size + 2 ≤ W3.heap.size) := ⟨heap_alloc_new _ _, by have := (Array.getElem?_eq_some_iff.1 HC3.out.2).1; omega⟩
      have h62 : g6 < W3.heap.size := own_lt HR63.out g6 rfl
      have h52 : g5 < W3.heap.size := by
        obtain ⟨inner, ho⟩ := Kd.R_own HR53.out
        exact own_lt ho g5 rfl
      clear HB3 HR53 HR63 HC3 wa
      have HNB : Aside0 (¬ B w.heap.size) := ⟨fun h => by have := H.out.lt _ h; omega⟩
      by_cases hrem : (k : Int) * 4 % 64 = 0
      · have e5 : k * 4 = padN k * 64 := by unfold padN; omega
        have HT := Aside0.mk (fun w7 p1 q1 p2 q2 => com_tail e0 D0 lb g dn B D A cp k l s w (W3.alloc (.cells #[.int .u32 s] 23)) g5 g6 c5 c6 W3.heap.size i H.out HO.out hi HLG.out hlb HN.out hn0 hn64 HL.out HR.out H64.out HSU.out HR0'.out HB4.out
          (by
            rw [← e5]
            have e6 : padL k (placesL l) = placesL l := by unfold padL; rw [show (64 - k * 4 % 64) % 64 = 0 by omega, List.replicate_zero, List.append_nil]
            rw [e6]
            exact Kd.R_mono HR54.out (fun _ _ => trivial)) HR64.out HC4.out HS4.out.1 (by have := HS4.out.2; omega) w7 p1 q1 p2 q2)
        have S0 : Aside0 ((W3.alloc (.cells #[.int .u32 s] 23)).cell? ⟨w.heap.size, 0, none⟩ = some (.pointer (some ⟨lb, 0, none⟩)) ∧ (W3.alloc (.cells #[.int .u32 s] 23)).cell? ⟨lb, 0, none⟩ = some (.pointer (some ⟨g, 0, none⟩))) := ⟨And.intro ((cell_of_row _ _ 0 _ _ _ HC4.out.1).trans rfl) (cell_later HB4.out HLG.out.cells.1)⟩
        have E5 := Aside0.mk e5
        have DR := Aside0.mk (drew_below (W3.alloc (.cells #[.int .u32 s] 23)))
        clear e5
        go_wp2_with fail
        rw [E5.out]
        refine wp_region_held_drew (S := fun W => W.cell? ⟨w.heap.size, 0, none⟩ = some (.pointer (some ⟨lb, 0, none⟩)) ∧ W.cell? ⟨lb, 0, none⟩ = some (.pointer (some ⟨g, 0, none⟩))) (by kernel_rfl) S0.out (fun hHeld => ?_)
        refine wpAnyH_take (i := 0) (oi := ⟨some 43, _, _, _, _, _⟩) (v := ?_) rfl (by kernel_rfl) (by kernel_rfl) (by kernel_rfl) (fun _ _ _ h => h) (Or.inl ⟨by rfl, ?hyA1⟩) (by assumption) ?rsA1
        case hyA1 => (intro w' hSw; (try dsimp only at hSw); (first | (go_simp; done) | (go_simp; with_reducible rfl)))
        try simp only [Act.put, List.setIfInBounds_toArray, List.set_cons_zero, List.set_cons_succ]
        refine wpAnyH_take (i := 1) (oi := ⟨some 44, _, _, _, _, _⟩) (v := ?_) rfl (by kernel_rfl) (by kernel_rfl) (by kernel_rfl) (fun _ _ _ h => h) (Or.inl ⟨by rfl, ?hyA2⟩) (by assumption) ?rsA2
        case hyA2 => (intro w' hSw; (try dsimp only at hSw); (first | (go_simp; done) | (go_simp; with_reducible rfl)))
        try simp only [Act.put, List.setIfInBounds_toArray, List.set_cons_zero, List.set_cons_succ]
        refine wpAnyH_take (i := 3) (oi := ⟨some 46, _, _, _, _, _⟩) (v := ?_) rfl (by kernel_rfl) (by kernel_rfl) (by kernel_rfl) (fun _ _ _ h => h) (Or.inl ⟨by rfl, ?hyA3⟩) (by assumption) ?rsA3
        case hyA3 => (intro w' hSw; (try dsimp only at hSw); (first | (go_simp; done) | (go_simp; with_reducible rfl)))
        try simp only [Act.put, List.setIfInBounds_toArray, List.set_cons_zero, List.set_cons_succ]
        refine wpAnyH_take (i := 4) (oi := ⟨some 47, _, _, _, _, _⟩) (v := ?_) rfl (by kernel_rfl) (by kernel_rfl) (by kernel_rfl) (fun _ _ _ h => h) (Or.inl ⟨by rfl, ?hyA4⟩) (by assumption) ?rsA4
        case hyA4 => (intro w' hSw; (try dsimp only at hSw); (first | (go_simp; done) | (go_simp; with_reducible rfl)))
        try simp only [Act.put, List.setIfInBounds_toArray, List.set_cons_zero, List.set_cons_succ]
        refine wpAnyH_take (i := 6) (oi := ⟨some 49, _, _, _, _, _⟩) (v := ?_) rfl (by kernel_rfl) (by kernel_rfl) (by kernel_rfl) (fun _ _ _ h => h) (Or.inl ⟨by rfl, ?hyA5⟩) (by assumption) ?rsA5
        case hyA5 => (intro w' hSw; (try dsimp only at hSw); (first | (go_simp; done) | (go_simp; with_reducible rfl)))
        try simp only [Act.put, List.setIfInBounds_toArray, List.set_cons_zero, List.set_cons_succ]
        refine wpAnyH_take (i := 7) (oi := ⟨some 50, _, _, _, _, _⟩) (v := ?_) rfl (by kernel_rfl) (by kernel_rfl) (by kernel_rfl) (fun _ _ _ h => h) (Or.inl ⟨by rfl, ?hyA6⟩) (by assumption) ?rsA6
        case hyA6 => (intro w' hSw; (try dsimp only at hSw); (first | (go_simp; done) | (go_simp; with_reducible rfl)))
        try simp only [Act.put, List.setIfInBounds_toArray, List.set_cons_zero, List.set_cons_succ]
        refine wpAnyH_take (i := 8) (oi := ⟨some 51, _, _, _, _, _⟩) (v := ?_) rfl (by kernel_rfl) (by kernel_rfl) (by kernel_rfl) (fun _ _ _ h => h) (Or.inl ⟨by rfl, ?hyA7⟩) (by assumption) ?rsA7
        case hyA7 => (intro w' hSw; (try dsimp only at hSw); (first | (go_simp; done) | (go_simp; with_reducible rfl)))
        try simp only [Act.put, List.setIfInBounds_toArray, List.set_cons_zero, List.set_cons_succ]
        refine wpAnyH_take (i := 9) (oi := ⟨some 52, _, _, _, _, _⟩) (v := ?_) rfl (by kernel_rfl) (by kernel_rfl) (by kernel_rfl) (fun _ _ _ h => h) (Or.inl ⟨by rfl, ?hyA8⟩) (by assumption) ?rsA8
        case hyA8 => (intro w' hSw; (try dsimp only at hSw); (first | (go_simp; done) | (go_simp; with_reducible rfl)))
        try simp only [Act.put, List.setIfInBounds_toArray, List.set_cons_zero, List.set_cons_succ]
        refine wpAnyH_take (i := 10) (oi := ⟨some 53, _, _, _, _, _⟩) (v := ?_) rfl (by kernel_rfl) (by kernel_rfl) (by kernel_rfl) (fun _ _ _ h => h) (Or.inl ⟨by rfl, ?hyA9⟩) (by assumption) ?rsA9
        case hyA9 => (intro w' hSw; (try dsimp only at hSw); (first | (go_simp; done) | (go_simp; with_reducible rfl)))
        try simp only [Act.put, List.setIfInBounds_toArray, List.set_cons_zero, List.set_cons_succ]
        refine wpAnyH_take (i := 11) (oi := ⟨some 54, _, _, _, _, _⟩) (v := ?_) rfl (by kernel_rfl) (by kernel_rfl) (by kernel_rfl) (fun _ _ _ h => h) (Or.inl ⟨by rfl, ?hyA10⟩) (by assumption) ?rsA10
        case hyA10 => (intro w' hSw; (try dsimp only at hSw); (first | (go_simp; done) | (go_simp; with_reducible rfl)))
        try simp only [Act.put, List.setIfInBounds_toArray, List.set_cons_zero, List.set_cons_succ]
        refine wpAnyH_take (i := 12) (oi := ⟨some 55, _, _, _, _, _⟩) (v := ?_) rfl (by kernel_rfl) (by kernel_rfl) (by kernel_rfl) (fun _ _ _ h => h) (Or.inl ⟨by rfl, ?hyA11⟩) (by assumption) ?rsA11
        case hyA11 => (intro w' hSw; (try dsimp only at hSw); (first | (go_simp; done) | (go_simp; with_reducible rfl)))
        try simp only [Act.put, List.setIfInBounds_toArray, List.set_cons_zero, List.set_cons_succ]
        refine wpAnyH_ready (rs := [2]) (by kernel_rfl) (by simp) ?_
        refine AllReadyH.cons rfl (fun K hK => ?_) AllReadyH.nil
        go_simp
        refine (mk_calls 5 _ _ _ _ _).mono ?_
        rintro e w6 ⟨p1, q1, rfl, k1, k2, k3, k4, k5⟩
        have K6 := Aside0.mk k5
        have P1 := Aside0.mk (And.intro k1 (And.intro k2 (And.intro k3 k4)))
        have S6 := Aside0.mk (And.intro (cell_later K6.out S0.out.1) (cell_later K6.out S0.out.2))
        clear k1 k2 k3 k4 k5 hHeld
        go_simp
        refine hK.out _ _ S6.out (fun hHeld => ?_)
        clear hK K
        try simp only [Act.put, List.setIfInBounds_toArray, List.set_cons_zero, List.set_cons_succ]
        refine wpAnyH_ready (rs := [5]) (by kernel_rfl) (by simp) ?_
        refine AllReadyH.cons rfl (fun K hK => ?_) AllReadyH.nil
        go_simp
        refine (mk_calls 1 _ _ _ _ _).mono ?_
        rintro e w7 ⟨p2, q2, rfl, k1, k2, k3, k4, k5⟩
        have K7 := Aside0.mk k5
        have P2 := Aside0.mk (And.intro k1 (And.intro k2 (And.intro k3 k4)))
        have S7 := Aside0.mk (And.intro (cell_later K7.out S6.out.1) (cell_later K7.out S6.out.2))
        clear k1 k2 k3 k4 k5 hHeld
        go_simp
        refine hK.out _ _ S7.out (fun hHeld => ?_)
        clear hK K
        try simp only [Act.put, List.setIfInBounds_toArray, List.set_cons_zero, List.set_cons_succ]
        refine wpAnyH_ready (rs := [13]) (by kernel_rfl) (by simp) ?_
        refine AllReadyH.cons rfl (fun K hK => ?_) AllReadyH.nil
        go_simp
        clear hHeld
        refine hK.out _ _ ⟨cell_later ((Below.refl _ _).alloc (Nat.le_refl _) _) S7.out.1, cell_later ((Below.refl _ _).alloc (Nat.le_refl _) _) S7.out.2⟩ (fun hHeld => ?_)
        clear hK K
        try simp only [Act.put, List.setIfInBounds_toArray, List.set_cons_zero, List.set_cons_succ]
        refine wpAnyH_ready (rs := [14]) (by kernel_rfl) (by simp) ?_
        refine AllReadyH.cons rfl (fun K hK => ?_) AllReadyH.nil
        go_simp
        refine (HT.out w7 p1 q1 p2 q2 ((DR.out w6 K6.out).trans (K7.out.mono K6.out.size)) P1.out.1 P1.out.2.1 (Nat.le_trans K6.out.size P2.out.1) (Nat.le_trans K6.out.size P2.out.2.1) (cell_later K7.out P1.out.2.2.1) (cell_later K7.out P1.out.2.2.2) P2.out.2.2.1 P2.out.2.2.2).mono ?_
        rintro e w9 ⟨rfl, m, h9⟩
        have M := Aside0.mk m
        have S9 := Aside0.mk (And.intro (h9 ⟨w.heap.size, 0, none⟩ _ HNB.out S7.out.1) (h9 ⟨lb, 0, none⟩ _ hlb S7.out.2))
        clear m h9 hHeld
        go_simp
        refine hK.out _ _ S9.out (fun hHeld => ?_)
        clear hK K
        try simp only [Act.put, List.setIfInBounds_toArray, List.set_cons_zero, List.set_cons_succ]
        refine wpAnyH_take (i := 15) (oi := ⟨some 4, _, _, _, _, _⟩) (v := ?_) rfl (by kernel_rfl) (by kernel_rfl) (by kernel_rfl) (fun _ _ _ h => h) (Or.inl ⟨by rfl, ?hyA12⟩) (by assumption) ?rsA12
        case hyA12 => (intro w' hSw; (try dsimp only at hSw); (first | (go_simp; done) | (go_simp; with_reducible rfl)))
        try simp only [Act.put, List.setIfInBounds_toArray, List.set_cons_zero, List.set_cons_succ]
        refine wpAnyH_done (by kernel_rfl) ?_ _
        go_wp2_with fail
        go_ret
        exact ⟨rfl, M.out⟩
      · have hrem1 : (0 : Int) < (k : Int) * 4 % 64 := by omega
        go_wp2_with ((with_reducible refine gate_builtin (b := .append) (xs := #[.tmp 38, .tmp 40]) rfl ?_); at_builtin; refine Kd.R_append_zeros (Kd.int .u8) w.heap.size rfl (.tmp 38) (.tmp 40) 22 3 5 (.int .u8 0) 1 rfl Try.underlying22 Try.underlying3 info5 rfl (by decide) (by decide) (.slice (some ⟨g5, 0, none⟩) (k * 4) c5) (placesL l) 0 (64 - (k : Int) * 4 % 64) (fun b => some b = (Value.slice (some ⟨g5, 0, none⟩) (k * 4) c5).ownBlock ∨ W3.heap.size < b) rfl rfl rfl (fun b h => .inr (by simp at h; omega)) HR54.out (by omega) HB4.out HB4.out.size (by have := HPL.out; omega) ?_; intro v5 W5 r5 b5 gr5 at5)
        have hpad : (placesL l ++ List.replicate (64 - (k : Int) * 4 % 64).toNat 0) = padL k (placesL l) := by
          unfold padL
          rw [show (64 - (k : Int) * 4 % 64).toNat = (64 - k * 4 % 64) % 64 by omega]
        rw [hpad] at r5
        have hpl5 : (padL k (placesL l)).length = padN k * 64 := padL_length HPL.out
        obtain ⟨inner, ho5⟩ := Kd.R_own r5
        rw [hpl5] at ho5
        obtain ⟨g5', c5', rfl, _⟩ := ho5.form (by unfold padN; omega)
        have w45 : ∀ b, b < W3.heap.size + 1 → b ≠ g5 → W5.heap[b]? = (W3.alloc (.cells #[.int .u32 s] 23)).heap[b]? := fun b hb hne => gr5.block b (by simpa using hb) (fun e => hne (by injection e))
        have hz3 := HS4.out.2
        have HT := Aside0.mk (fun w7 p1 q1 p2 q2 => com_tail e0 D0 lb g dn B D A cp k l s w W5 g5' g6 c5' c6 W3.heap.size i H.out HO.out hi HLG.out hlb HN.out hn0 hn64 HL.out HR.out H64.out HSU.out HR0'.out b5
          (Kd.R_mono r5 (fun _ _ => trivial)) (ownsRow_kept HR64.out (fun b e => by
            have e : g6 = b := by simpa [Value.ownBlock] using e
            subst e
            exact w45 g6 (by omega) (fun e => hne56 e.symm)))
          ⟨(w45 _ (by omega) (fun e => Kd.R_ne HR54.out HC4.out.1 (by decide) (by rw [e]; rfl))).trans HC4.out.1, (w45 _ (by omega) (fun e => Kd.R_ne HR54.out HC4.out.2 (by decide) (by rw [e]; rfl))).trans HC4.out.2⟩
          ((w45 _ (by omega) (by omega)).trans HS4.out.1) (by omega) w7 p1 q1 p2 q2)
        have S0 : Aside0 (W5.cell? ⟨w.heap.size, 0, none⟩ = some (.pointer (some ⟨lb, 0, none⟩)) ∧ W5.cell? ⟨lb, 0, none⟩ = some (.pointer (some ⟨g, 0, none⟩))) := ⟨And.intro ((cell_of_row W5 _ 0 _ _ _ ((w45 _ (by omega) (fun e => Kd.R_ne HR54.out HC4.out.1 (by decide) (by rw [e]; rfl))).trans HC4.out.1)).trans rfl) (cell_later b5 HLG.out.cells.1)⟩
        have DR := Aside0.mk (drew_below W5)
        clear r5 b5 gr5 at5 hpad hpl5 inner ho5 w45 hz3 hrem hrem1 hm4 hm5
        refine wp_region_held_drew (S := fun W => W.cell? ⟨w.heap.size, 0, none⟩ = some (.pointer (some ⟨lb, 0, none⟩)) ∧ W.cell? ⟨lb, 0, none⟩ = some (.pointer (some ⟨g, 0, none⟩))) (by kernel_rfl) S0.out (fun hHeld => ?_)
        refine wpAnyH_take (i := 0) (oi := ⟨some 43, _, _, _, _, _⟩) (v := ?_) rfl (by kernel_rfl) (by kernel_rfl) (by kernel_rfl) (fun _ _ _ h => h) (Or.inl ⟨by rfl, ?hyB1⟩) (by assumption) ?rsB1
        case hyB1 => (intro w' hSw; (try dsimp only at hSw); (first | (go_simp; done) | (go_simp; with_reducible rfl)))
        try simp only [Act.put, List.setIfInBounds_toArray, List.set_cons_zero, List.set_cons_succ]
        refine wpAnyH_take (i := 1) (oi := ⟨some 44, _, _, _, _, _⟩) (v := ?_) rfl (by kernel_rfl) (by kernel_rfl) (by kernel_rfl) (fun _ _ _ h => h) (Or.inl ⟨by rfl, ?hyB2⟩) (by assumption) ?rsB2
        case hyB2 => (intro w' hSw; (try dsimp only at hSw); (first | (go_simp; done) | (go_simp; with_reducible rfl)))
        try simp only [Act.put, List.setIfInBounds_toArray, List.set_cons_zero, List.set_cons_succ]
        refine wpAnyH_take (i := 3) (oi := ⟨some 46, _, _, _, _, _⟩) (v := ?_) rfl (by kernel_rfl) (by kernel_rfl) (by kernel_rfl) (fun _ _ _ h => h) (Or.inl ⟨by rfl, ?hyB3⟩) (by assumption) ?rsB3
        case hyB3 => (intro w' hSw; (try dsimp only at hSw); (first | (go_simp; done) | (go_simp; with_reducible rfl)))
        try simp only [Act.put, List.setIfInBounds_toArray, List.set_cons_zero, List.set_cons_succ]
        refine wpAnyH_take (i := 4) (oi := ⟨some 47, _, _, _, _, _⟩) (v := ?_) rfl (by kernel_rfl) (by kernel_rfl) (by kernel_rfl) (fun _ _ _ h => h) (Or.inl ⟨by rfl, ?hyB4⟩) (by assumption) ?rsB4
        case hyB4 => (intro w' hSw; (try dsimp only at hSw); (first | (go_simp; done) | (go_simp; with_reducible rfl)))
        try simp only [Act.put, List.setIfInBounds_toArray, List.set_cons_zero, List.set_cons_succ]
        refine wpAnyH_take (i := 6) (oi := ⟨some 49, _, _, _, _, _⟩) (v := ?_) rfl (by kernel_rfl) (by kernel_rfl) (by kernel_rfl) (fun _ _ _ h => h) (Or.inl ⟨by rfl, ?hyB5⟩) (by assumption) ?rsB5
        case hyB5 => (intro w' hSw; (try dsimp only at hSw); (first | (go_simp; done) | (go_simp; with_reducible rfl)))
        try simp only [Act.put, List.setIfInBounds_toArray, List.set_cons_zero, List.set_cons_succ]
        refine wpAnyH_take (i := 7) (oi := ⟨some 50, _, _, _, _, _⟩) (v := ?_) rfl (by kernel_rfl) (by kernel_rfl) (by kernel_rfl) (fun _ _ _ h => h) (Or.inl ⟨by rfl, ?hyB6⟩) (by assumption) ?rsB6
        case hyB6 => (intro w' hSw; (try dsimp only at hSw); (first | (go_simp; done) | (go_simp; with_reducible rfl)))
        try simp only [Act.put, List.setIfInBounds_toArray, List.set_cons_zero, List.set_cons_succ]
        refine wpAnyH_take (i := 8) (oi := ⟨some 51, _, _, _, _, _⟩) (v := ?_) rfl (by kernel_rfl) (by kernel_rfl) (by kernel_rfl) (fun _ _ _ h => h) (Or.inl ⟨by rfl, ?hyB7⟩) (by assumption) ?rsB7
        case hyB7 => (intro w' hSw; (try dsimp only at hSw); (first | (go_simp; done) | (go_simp; with_reducible rfl)))
        try simp only [Act.put, List.setIfInBounds_toArray, List.set_cons_zero, List.set_cons_succ]
        refine wpAnyH_take (i := 9) (oi := ⟨some 52, _, _, _, _, _⟩) (v := ?_) rfl (by kernel_rfl) (by kernel_rfl) (by kernel_rfl) (fun _ _ _ h => h) (Or.inl ⟨by rfl, ?hyB8⟩) (by assumption) ?rsB8
        case hyB8 => (intro w' hSw; (try dsimp only at hSw); (first | (go_simp; done) | (go_simp; with_reducible rfl)))
        try simp only [Act.put, List.setIfInBounds_toArray, List.set_cons_zero, List.set_cons_succ]
        refine wpAnyH_take (i := 10) (oi := ⟨some 53, _, _, _, _, _⟩) (v := ?_) rfl (by kernel_rfl) (by kernel_rfl) (by kernel_rfl) (fun _ _ _ h => h) (Or.inl ⟨by rfl, ?hyB9⟩) (by assumption) ?rsB9
        case hyB9 => (intro w' hSw; (try dsimp only at hSw); (first | (go_simp; done) | (go_simp; with_reducible rfl)))
        try simp only [Act.put, List.setIfInBounds_toArray, List.set_cons_zero, List.set_cons_succ]
        refine wpAnyH_take (i := 11) (oi := ⟨some 54, _, _, _, _, _⟩) (v := ?_) rfl (by kernel_rfl) (by kernel_rfl) (by kernel_rfl) (fun _ _ _ h => h) (Or.inl ⟨by rfl, ?hyB10⟩) (by assumption) ?rsB10
        case hyB10 => (intro w' hSw; (try dsimp only at hSw); (first | (go_simp; done) | (go_simp; with_reducible rfl)))
        try simp only [Act.put, List.setIfInBounds_toArray, List.set_cons_zero, List.set_cons_succ]
        refine wpAnyH_take (i := 12) (oi := ⟨some 55, _, _, _, _, _⟩) (v := ?_) rfl (by kernel_rfl) (by kernel_rfl) (by kernel_rfl) (fun _ _ _ h => h) (Or.inl ⟨by rfl, ?hyB11⟩) (by assumption) ?rsB11
        case hyB11 => (intro w' hSw; (try dsimp only at hSw); (first | (go_simp; done) | (go_simp; with_reducible rfl)))
        try simp only [Act.put, List.setIfInBounds_toArray, List.set_cons_zero, List.set_cons_succ]
        refine wpAnyH_ready (rs := [2]) (by kernel_rfl) (by simp) ?_
        refine AllReadyH.cons rfl (fun K hK => ?_) AllReadyH.nil
        go_simp
        refine (mk_calls 5 _ _ _ _ _).mono ?_
        rintro e w6 ⟨p1, q1, rfl, k1, k2, k3, k4, k5⟩
        have K6 := Aside0.mk k5
        have P1 := Aside0.mk (And.intro k1 (And.intro k2 (And.intro k3 k4)))
        have S6 := Aside0.mk (And.intro (cell_later K6.out S0.out.1) (cell_later K6.out S0.out.2))
        clear k1 k2 k3 k4 k5 hHeld
        go_simp
        refine hK.out _ _ S6.out (fun hHeld => ?_)
        clear hK K
        try simp only [Act.put, List.setIfInBounds_toArray, List.set_cons_zero, List.set_cons_succ]
        refine wpAnyH_ready (rs := [5]) (by kernel_rfl) (by simp) ?_
        refine AllReadyH.cons rfl (fun K hK => ?_) AllReadyH.nil
        go_simp
        refine (mk_calls 1 _ _ _ _ _).mono ?_
        rintro e w7 ⟨p2, q2, rfl, k1, k2, k3, k4, k5⟩
        have K7 := Aside0.mk k5
        have P2 := Aside0.mk (And.intro k1 (And.intro k2 (And.intro k3 k4)))
        have S7 := Aside0.mk (And.intro (cell_later K7.out S6.out.1) (cell_later K7.out S6.out.2))
        clear k1 k2 k3 k4 k5 hHeld
        go_simp
        refine hK.out _ _ S7.out (fun hHeld => ?_)
        clear hK K
        try simp only [Act.put, List.setIfInBounds_toArray, List.set_cons_zero, List.set_cons_succ]
        refine wpAnyH_ready (rs := [13]) (by kernel_rfl) (by simp) ?_
        refine AllReadyH.cons rfl (fun K hK => ?_) AllReadyH.nil
        go_simp
        clear hHeld
        refine hK.out _ _ ⟨cell_later ((Below.refl _ _).alloc (Nat.le_refl _) _) S7.out.1, cell_later ((Below.refl _ _).alloc (Nat.le_refl _) _) S7.out.2⟩ (fun hHeld => ?_)
        clear hK K
        try simp only [Act.put, List.setIfInBounds_toArray, List.set_cons_zero, List.set_cons_succ]
        refine wpAnyH_ready (rs := [14]) (by kernel_rfl) (by simp) ?_
        refine AllReadyH.cons rfl (fun K hK => ?_) AllReadyH.nil
        go_simp
        refine (HT.out w7 p1 q1 p2 q2 ((DR.out w6 K6.out).trans (K7.out.mono K6.out.size)) P1.out.1 P1.out.2.1 (Nat.le_trans K6.out.size P2.out.1) (Nat.le_trans K6.out.size P2.out.2.1) (cell_later K7.out P1.out.2.2.1) (cell_later K7.out P1.out.2.2.2) P2.out.2.2.1 P2.out.2.2.2).mono ?_
        rintro e w9 ⟨rfl, m, h9⟩
        have M := Aside0.mk m
        have S9 := Aside0.mk (And.intro (h9 ⟨w.heap.size, 0, none⟩ _ HNB.out S7.out.1) (h9 ⟨lb, 0, none⟩ _ hlb S7.out.2))
        clear m h9 hHeld
        go_simp
        refine hK.out _ _ S9.out (fun hHeld => ?_)
        clear hK K
        try simp only [Act.put, List.setIfInBounds_toArray, List.set_cons_zero, List.set_cons_succ]
        refine wpAnyH_take (i := 15) (oi := ⟨some 4, _, _, _, _, _⟩) (v := ?_) rfl (by kernel_rfl) (by kernel_rfl) (by kernel_rfl) (fun _ _ _ h => h) (Or.inl ⟨by rfl, ?hyB12⟩) (by assumption) ?rsB12
        case hyB12 => (intro w' hSw; (try dsimp only at hSw); (first | (go_simp; done) | (go_simp; with_reducible rfl)))
        try simp only [Act.put, List.setIfInBounds_toArray, List.set_cons_zero, List.set_cons_succ]
        refine wpAnyH_done (by kernel_rfl) ?_ _
        go_wp2_with fail
        go_ret
        exact ⟨rfl, M.out⟩
    | succ k1 =>
      have hk1 : (k : Int) < (n : Int) := by have := HI.out; omega
      have HI3 : Aside0 (k + 1 + k1 = n) := ⟨by have := HI.out; omega⟩
      obtain ⟨x, hx⟩ : ∃ x, l[k]? = some x := ⟨_, List.getElem?_eq_getElem (by rw [HN.out]; omega)⟩
      obtain ⟨ad, A1, cap1, rfl, g1, g2, g3, g4⟩ := stab_102 (B' := B) HN.out HL.out (Fr.refl B w) (fun _ h => .inl h) hx
      replace g1 := cell_later HB.out g1
      replace g2 := cell_later HB.out g2
      obtain ⟨r1, r2⟩ := HR.out x (List.mem_of_getElem? hx)
      rw [H64.out x (List.mem_of_getElem? hx)] at g2 g3 g4
      have G4 := Aside0.mk g4
      have G3 := Aside0.mk g3
      have HX := Aside0.mk hx
      clear g4 g3 hx
      go_wp2_with fail
      have wa : Below wr.heap.size wr (wr.alloc (.cells #[.int .i64 x.f0, .slice A1 64 cap1] 102)) := (Below.refl _ _).alloc (Nat.le_refl _) _
      have hbx : (wr.alloc (.cells #[.int .i64 x.f0, .slice A1 64 cap1] 102)).heap[wr.heap.size]? = some (.cells #[.int .i64 x.f0, .slice A1 64 cap1] 102 (0, 0)) := heap_alloc_new _ _
      have HPL : Aside0 ((placesL (l.take k)).length ≤ 1000000) := ⟨by rw [placesL_length, List.length_take]; have := HN.out; omega⟩
      refine (journal_four.calls (fun b => some b = u5.ownBlock) u5 (placesL (l.take k)) x.f0 _ w _ (HB.out.trans (wa.mono HB.out.size)) (Kd.R_below HR5.out wa) (four_f HPL.out)).mono ?_
      rintro e w2 ⟨v5, rfl, r5, b5, k5⟩
      have h5lt : ∀ b, some b = u5.ownBlock → b < wr.heap.size := fun b e => by
        obtain ⟨inner, ho⟩ := Kd.R_own HR5.out
        exact own_lt ho b e.symm
      have hkeep : ∀ b, b < wr.heap.size → some b ≠ u5.ownBlock → w2.heap[b]? = wr.heap[b]? := fun b hb hne => (k5.2 b (by simp; omega) hne).trans (wa.block b hb)
      have HX2 : Aside0 (w2.cell? ⟨wr.heap.size, 1, none⟩ = some (.slice A1 64 cap1)) := ⟨by
        have e1 : w2.heap[wr.heap.size]? = some (.cells #[.int .i64 x.f0, .slice A1 64 cap1] 102 (0, 0)) := (k5.2 _ (by simp) (fun e => by have := h5lt _ e; omega)).trans hbx
        rw [cell_of_row _ _ _ _ _ _ e1]
        rfl⟩
      have HR5' : Aside0 (Kd.R (Kd.int .u8) 5 w2 w.heap.size (fun b => some b = v5.ownBlock) v5 (placesL (l.take (k + 1)))) := ⟨by
        have e1 : placesL (l.take (k + 1)) = placesL (l.take k) ++ fourL x.f0 := by
          obtain ⟨hlt, hget⟩ := List.getElem?_eq_some_iff.1 HX.out
          rw [List.take_succ_eq_append_getElem hlt, hget]
          simp [placesL, List.flatMap_append]
        rw [e1]
        exact Kd.R_tight rfl r5⟩
      have HR6' : Aside0 (w2.ownsRow w.heap.size 5 1 u6 (dataL (l.take k)).length (nums .u8 (dataL (l.take k)))) := ⟨ownsRow_kept HR6.out (fun b e => hkeep b (own_lt HR6.out b e) (fun e' => HAP.out b e'.symm e))⟩
      have HAP' : Aside0 (∀ b, v5.ownBlock = some b → u6.ownBlock ≠ some b) := ⟨fun b e e6 => (r5.1 b e).elim (fun h => HAP.out b h.symm e6) (fun h => by have := own_lt HR6.out b e6; simp at h; omega)⟩
      have HC' : Aside0 (w2.heap[w.heap.size]? = some (.cells #[.pointer (some ⟨lb, 0, none⟩)] 56 (0, 0)) ∧ w2.heap[w.heap.size + 1]? = some (.cells #[.slice (some ad) n cp] 60 (0, 0))) := ⟨by
        have t1 := HC.out.1
        have t2 := HC.out.2
        exact ⟨(hkeep _ (Array.getElem?_eq_some_iff.1 t1).1 (Kd.R_ne HR5.out t1 (by decide))).trans t1, (hkeep _ (Array.getElem?_eq_some_iff.1 t2).1 (Kd.R_ne HR5.out t2 (by decide))).trans t2⟩⟩
      have HB' := Aside0.mk b5
      have hx2 := HX2.out
      clear r5 b5 k5 h5lt hkeep wa hbx HR5 HR6 HAP HC
      have HRD : Aside0 (ReadsInt w2 .u8 A1 64 x.f1) := ⟨Kd.reads_of_C (enc := Value.int .u8) (d := (0 : Int)) (h1 := fun _ => rfl) (G4.out w2 (Fr.of_below HB'.out B))⟩
      have HDL : Aside0 ((dataL (l.take k)).length ≤ 1000000) := ⟨by rw [dataL_length _ (fun y hy => H64.out y (List.mem_of_mem_take hy)), List.length_take]; have := HN.out; omega⟩
      go_wp2_with ((with_reducible refine gate_builtin (b := .append) (xs := #[.tmp 23, .tmp 25]) rfl ?_); at_builtin; refine print_append_row w.heap.size rfl (.tmp 23) (.tmp 25) 22 5 .u8 1 rfl Try.underlying22 info5 (by omega) u6 (dataL (l.take k)) x.f1 A1 64 cap1 rfl rfl HR6'.out HRD.out HB'.out HB'.out.size (by have := HDL.out; omega) ?_; intro v6 w3 h1 h2 h3 h4)
      have e1 : dataL (l.take (k + 1)) = dataL (l.take k) ++ x.f1 := by
        obtain ⟨hlt, hget⟩ := List.getElem?_eq_some_iff.1 HX.out
        rw [List.take_succ_eq_append_getElem hlt, hget]
        simp [dataL, List.flatMap_append]
      rw [← e1] at h1
      have ne5 : ∀ b, v5.ownBlock = some b → some b ≠ u6.ownBlock := fun b e e' => HAP'.out b e e'.symm
      have HR5'' : Aside0 (Kd.R (Kd.int .u8) 5 w3 w.heap.size (fun b => some b = v5.ownBlock) v5 (placesL (l.take (k + 1)))) := ⟨Kd.R_grown HR5'.out h3 (fun b e => ne5 b e.symm)⟩
      have HR6'' := Aside0.mk h1
      have HAP'' : Aside0 (∀ b, v5.ownBlock = some b → v6.ownBlock ≠ some b) := ⟨fun b e e6 => by
        rcases h4 with h4 | ⟨b', h4, h5⟩
        · exact HAP'.out b e (h4 ▸ e6)
        · rw [h4] at e6
          injection e6 with e6
          obtain ⟨inner, ho⟩ := Kd.R_own HR5'.out
          have := own_lt ho b e
          omega⟩
      have HC'' : Aside0 (w3.heap[w.heap.size]? = some (.cells #[.pointer (some ⟨lb, 0, none⟩)] 56 (0, 0)) ∧ w3.heap[w.heap.size + 1]? = some (.cells #[.slice (some ad) n cp] 60 (0, 0))) := ⟨by
        have t1 := HC'.out.1
        have t2 := HC'.out.2
        exact ⟨(h3.block _ (Array.getElem?_eq_some_iff.1 t1).1 (own_ne HR6'.out t1 (by decide))).trans t1, (h3.block _ (Array.getElem?_eq_some_iff.1 t2).1 (own_ne HR6'.out t2 (by decide))).trans t2⟩⟩
      have HB'' := Aside0.mk h2
      clear h1 h2 h3 h4 e1 ne5 HR5' HR6' HAP' HC' HB' hx2 g1 g2
      go_roundg k1
      case measure => omega
      case rel => exact ⟨k + 1, by go_num, HI3, HR5'', HR6'', HAP'', HB'', HC''⟩
end Go.Proofs.Ytppgbfkhiofjiaa.X

namespace Go.Proofs.Ytppgbfkhiofjiaa.X
open Go.RowKit Go.Proofs.YtppgbfkhiofjiaaW.PrintWords Go.Proofs.YtppgbfkhiofjiaaW.PrintLast Go.Proofs.YtppgbfkhiofjiaaW.PrintMore Go.Proofs.Ytppgbfkhiofjiaa.Y
set_option linter.unusedVariables false
set_option linter.unusedSimpArgs false

def hasB (D : DS) (n : Int) : Bool := decide (0 ≤ n ∧ n < D.n - 69)

set_option maxHeartbeats 4000000 in
set_option maxRecDepth 100000 in
theorem logsect_calls (lb g : Nat) (dn : Bool) (B : Nat → Prop) (D : DS) (w : World) (h : IsDisk w B g D) (hlog : IsLog w lb g dn) (hn : 0 ≤ D.n ∧ D.n ≤ 4096) :
    Calls Try.prog 55 #[.pointer (some ⟨lb, 0, none⟩)] w fun e w' => e = .returned (.int .i64 (D.n - 69)) ∧ w' = w := by
  have SC := Aside0.mk (sect_calls g B D w h)
  obtain ⟨c0, c1, c2⟩ := hlog.cells
  obtain ⟨h1, h2⟩ := hn
  clear h c1 c2 hlog
  go_enter Try.func55, Try.ntmps55
  go_wp2_with fail
  refine SC.out.mono ?_
  rintro e w' ⟨rfl, rfl⟩
  go_wp2_with fail
  go_ret
  exact ⟨rfl, rfl⟩

set_option maxHeartbeats 4000000 in
set_option maxRecDepth 100000 in
theorem has_calls (lb g : Nat) (dn : Bool) (B : Nat → Prop) (D : DS) (n : Int) (w : World) (h : IsDisk w B g D) (hlog : IsLog w lb g dn) (hn : 0 ≤ D.n ∧ D.n ≤ 4096) :
    Calls Try.prog 57 #[.pointer (some ⟨lb, 0, none⟩), .int .i64 n] w fun e w' => e = .returned (.bool (hasB D n)) ∧ w' = w := by
  have SC := Aside0.mk (logsect_calls lb g dn B D w h hlog hn)
  by_cases h0 : 0 ≤ n
  · have HB : Aside0 (hasB D n = decide (n < D.n - 69)) := ⟨by unfold hasB; simp [h0]⟩
    clear h hlog hn
    go_enter Try.func57, Try.ntmps57
    go_wp2_with fail
    refine SC.out.mono ?_
    rintro e w' ⟨rfl, rfl⟩
    go_wp2_with fail
    go_ret
    exact ⟨by rw [HB.out]; rfl, rfl⟩
  · have HB : Aside0 (hasB D n = false) := ⟨by unfold hasB; simp [h0]⟩
    have h0' : n < 0 := by omega
    clear h hlog hn
    go_enter Try.func57, Try.ntmps57
    go_wp2_with fail
    go_ret
    exact ⟨by rw [HB.out]; rfl, rfl⟩

def rd64 (D : DS) (k : Int) : List Int := readC k D.c (D.f k)
theorem has_look {D : DS} {n : Int} (h : hasB D n = true) : lookD D (69 + n) = if D.down = true then 230 else 0 := by
  unfold hasB at h
  have h := of_decide_eq_true h
  unfold lookD
  split
  · rfl
  · rw [if_neg (by omega), if_neg (by omega)]

set_option maxHeartbeats 4000000 in
set_option maxRecDepth 100000 in
theorem lread_no (lb g : Nat) (dn : Bool) (B : Nat → Prop) (D : DS) (n : Int) (w : World) (h : IsDisk w B g D) (hlog : IsLog w lb g dn) (hn : 0 ≤ D.n ∧ D.n ≤ 4096) (hh : hasB D n = false) :
    Calls Try.prog 56 #[.pointer (some ⟨lb, 0, none⟩), .int .i64 n] w fun e w' => e = .returned (.tuple #[.slice none 0 0, .int .i64 2]) ∧ w' = w := by
  have HC := has_calls lb g dn B D n w h hlog hn
  rw [hh] at HC
  have HC := Aside0.mk HC
  clear h hlog hn hh
  go_enter Try.func56, Try.ntmps56
  go_wp2_with fail
  refine HC.out.mono ?_
  rintro e w' ⟨rfl, rfl⟩
  go_wp2_with fail
  go_ret2
  exact ⟨rfl, rfl⟩
set_option maxHeartbeats 4000000 in
set_option maxRecDepth 100000 in
theorem lread_down (lb g : Nat) (dn : Bool) (B : Nat → Prop) (D : DS) (n : Int) (w : World) (h : IsDisk w B g D) (hlog : IsLog w lb g dn) (hn : 0 ≤ D.n ∧ D.n ≤ 4096) (hh : hasB D n = true) (hd : D.down = true) :
    Calls Try.prog 56 #[.pointer (some ⟨lb, 0, none⟩), .int .i64 n] w fun e w' => e = .returned (.tuple #[.slice none 0 0, .int .i64 230]) ∧ Drawn0 w w' := by
  have HC := has_calls lb g dn B D n w h hlog hn
  rw [hh] at HC
  have HC := Aside0.mk HC
  have hlk := has_look hh
  rw [if_pos hd] at hlk
  have RC := read_bad g B D (69 + n) w h (by rw [hlk]; decide)
  rw [hlk] at RC
  have RC := Aside0.mk RC
  have hr := of_decide_eq_true hh
  obtain ⟨r1, r2⟩ := hr
  obtain ⟨n1, n2⟩ := hn
  obtain ⟨c0, c1, c2⟩ := hlog.cells
  clear h hlog hh hd hlk c1 c2
  go_enter Try.func56, Try.ntmps56
  go_wp2_with fail
  refine HC.out.mono ?_
  rintro e w' ⟨rfl, rfl⟩
  go_wp2_with fail
  refine RC.out.mono ?_
  rintro e w' ⟨rfl, hd⟩
  have HD := Aside0.mk hd
  clear hd
  go_wp2_with fail
  go_ret2
  exact ⟨rfl, HD.out⟩
set_option maxHeartbeats 4000000 in
set_option maxRecDepth 100000 in
theorem lread_yes (lb g : Nat) (dn : Bool) (B : Nat → Prop) (D : DS) (n : Int) (w : World) (h : IsDisk w B g D) (hlog : IsLog w lb g dn) (hn : 0 ≤ D.n ∧ D.n ≤ 4096) (hh : hasB D n = true) (hd : D.down = false) (hc : D.c.length ≤ 1000000) :
    Calls Try.prog 56 #[.pointer (some ⟨lb, 0, none⟩), .int .i64 n] w fun e w' => ∃ gb, e = .returned (.tuple #[.slice (some ⟨gb, 0, none⟩) 64 64, .int .i64 0]) ∧ w.heap.size ≤ gb ∧ IsArr w' gb (rd64 D (69 + n)) ∧ Fr (fun _ => False) w w' := by
  have HC := has_calls lb g dn B D n w h hlog hn
  rw [hh] at HC
  have HC := Aside0.mk HC
  have hlk := has_look hh
  rw [if_neg (by rw [hd]; decide)] at hlk
  have hr := of_decide_eq_true hh
  obtain ⟨r1, r2⟩ := hr
  obtain ⟨n1, n2⟩ := hn
  have RC := Aside0.mk (read_calls g B D (69 + n) w h hlk (WalkArith.wf_i64 (by omega)) hc)
  obtain ⟨c0, c1, c2⟩ := hlog.cells
  clear h hlog hh hd hlk c1 c2 hc
  go_enter Try.func56, Try.ntmps56
  go_wp2_with fail
  refine HC.out.mono ?_
  rintro e w' ⟨rfl, rfl⟩
  go_wp2_with fail
  refine RC.out.mono ?_
  rintro e w' ⟨gb, rfl, h1, h2, h3⟩
  have H := Aside0.mk (And.intro h1 (And.intro h2 h3))
  clear h1 h2 h3
  go_wp2_with fail
  go_ret2
  exact ⟨gb, rfl, H.out⟩

/-! ### sectors -/
def sectL (D : DS) (a : Int) : Nat → List Int
  | 0 => []
  | n + 1 => sectL D a n ++ rd64 D (a + n)
theorem IsDisk.rd64_length {w : World} {B : Nat → Prop} {g : Nat} {D : DS} (h : IsDisk w B g D) (k : Int) : (rd64 D k).length = 64 := by
  obtain ⟨hg, hf⟩ := h.good
  have key : ∀ (c : List (Int × List Int)) (b : List Int), (∀ p ∈ c, p.2.length = 64) → b.length = 64 → (readC k c b).length = 64 := by
    intro c
    induction c with
    | nil => intro b _ hb; exact hb
    | cons p c ih =>
      intro b hp hb
      rw [readC]
      refine ih _ (fun q hq => hp q (by simp [hq])) ?_
      split
      · exact hp p (by simp)
      · exact hb
  exact key _ _ (fun p hp => (hg p hp).1) (hf k)
theorem IsDisk.sectL_length {w : World} {B : Nat → Prop} {g : Nat} {D : DS} (h : IsDisk w B g D) (a : Int) : ∀ n, (sectL D a n).length = n * 64
  | 0 => rfl
  | n + 1 => by rw [sectL, List.length_append, h.sectL_length a n, h.rd64_length]; omega
theorem IsArr.reads {w : World} {b : Nat} {l : List Int} (h : IsArr w b l) (hl : l.length = 64) : ReadsInt w .u8 (some ⟨b, 0, none⟩) 64 l := ⟨hl, by omega, fun _ => ⟨_, rfl, fun j hj => by
  rw [Addr.add_mid, Nat.zero_add]
  exact h.cell j (by omega)⟩⟩

set_option maxHeartbeats 4000000 in
set_option maxRecDepth 100000 in
theorem sectors_row (g : Nat) (B : Nat → Prop) (D : DS) (a : Int) (n : Nat) (w : World) (h : IsDisk w B g D) (hd : D.down = false) (ha : 0 ≤ a ∧ a ≤ 1000) (hn : n ≤ 1000) (hr : a + n ≤ D.n) (hc : D.c.length ≤ 1000000) :
    Calls Try.prog 81 #[.pointer (some ⟨g, 0, none⟩), .int .i64 a, .int .i64 (n : Int)] w fun e w' => ∃ v, e = .returned v ∧ w'.ownsRow w.heap.size 5 1 v (sectL D a n).length (nums .u8 (sectL D a n)) ∧ Below w.heap.size w w' := by
  have H := Aside0.mk h
  have HD := Aside0.mk hd
  have HC := Aside0.mk hc
  have HR := Aside0.mk hr
  obtain ⟨a1, a2⟩ := ha
  have HO0 : Aside0 (w.ownsRow w.heap.size 5 1 (.slice none 0 0) (sectL D a 0).length (nums .u8 (sectL D a 0))) := ⟨⟨rfl, .inl ⟨rfl, rfl⟩⟩⟩
  have HB0 := Aside0.mk (Below.refl w.heap.size w)
  clear h hd hc hr
  go_enter Try.func81, Try.ntmps81
  go_wp2_with fail
  go_loopg [7, 12] n (fun kq v7 v12 W => ∃ (k : Nat), v12 = .int .i64 (k : Int) ∧ Aside0 (k + kq = n) ∧ Aside0 (W.ownsRow w.heap.size 5 1 v7 (sectL D a k).length (nums .u8 (sectL D a k))) ∧ Aside0 (Below w.heap.size w W))
  case atStart => exact ⟨0, rfl, ⟨by omega⟩, HO0, HB0⟩
  case round =>
    clear HO0 HB0
    obtain ⟨k, rfl, HI, HO, HB⟩ := hrel
    have hk0 : (0 : Int) ≤ (k : Int) := by omega
    cases gk with
    | zero =>
      have hk : k = n := by have := HI.out; omega
      subst hk
      go_wp2_with fail
      go_ret
      exact ⟨_, rfl, HO.out, HB.out⟩
    | succ k1 =>
      have hk1 : (k : Int) < (n : Int) := by have := HI.out; omega
      have HI3 : Aside0 (k + 1 + k1 = n) := ⟨by have := HI.out; omega⟩
      have hDr : IsDisk wr B g D := H.out.fr (Fr.of_below HB.out (fun _ => False)) (fun _ _ h => h)
      have hlk : lookD D (a + k) = 0 := by
        unfold lookD
        rw [HD.out, if_neg (by decide), if_neg (by omega), if_neg (by have := HR.out; omega)]
      have RC := Aside0.mk (read_calls g B D (a + k) wr hDr hlk (WalkArith.wf_i64 (by omega)) HC.out)
      have HL := Aside0.mk (hDr.rd64_length (a + k))
      have HS := Aside0.mk (hDr.sectL_length a k)
      clear hDr hlk
      go_wp2_with fail
      refine RC.out.mono ?_
      rintro e w2 ⟨gb, rfl, h1, h2, h3⟩
      have HA : Aside0 (ReadsInt w2 .u8 (some ⟨gb, 0, none⟩) 64 (rd64 D (a + k))) := ⟨IsArr.reads h2 HL.out⟩
      have HB2 : Aside0 (Below w.heap.size w w2) := ⟨HB.out.trans (h3.below (fun _ h => h.elim) HB.out.size)⟩
      have HO2 : Aside0 (w2.ownsRow w.heap.size 5 1 u7 (sectL D a k).length (nums .u8 (sectL D a k))) := ⟨ownsRow_kept HO.out (fun b e => h3.keep b (own_lt HO.out b e) (fun h => h))⟩
      clear h1 h2 h3 RC HO HB
      go_wp2_with ((with_reducible refine gate_builtin (b := .append) (xs := #[.tmp 23, .tmp 24]) rfl ?_); at_builtin; refine print_append_row w.heap.size rfl (.tmp 23) (.tmp 24) 22 5 .u8 1 rfl Try.underlying22 info5 (by omega) u7 (sectL D a k) (rd64 D (a + k)) (some ⟨gb, 0, none⟩) 64 64 rfl rfl HO2.out HA.out HB2.out HB2.out.size (by have := HS.out; omega) ?_; intro v3 w3 q1 q2 q3 q4)
      have HO3 : Aside0 (w3.ownsRow w.heap.size 5 1 v3 (sectL D a (k + 1)).length (nums .u8 (sectL D a (k + 1)))) := ⟨q1⟩
      have HB3 := Aside0.mk q2
      clear q1 q2 q3 q4 HO2 HA HB2
      go_roundg k1
      case measure => omega
      case rel => exact ⟨k + 1, by go_num, HI3, HO3, HB3⟩
end Go.Proofs.Ytppgbfkhiofjiaa.X

namespace Go.Proofs.Ytppgbfkhiofjiaa.X
open Go.RowKit Go.Proofs.YtppgbfkhiofjiaaW.PrintWords Go.Proofs.YtppgbfkhiofjiaaW.PrintLast Go.Proofs.YtppgbfkhiofjiaaW.PrintMore Go.Proofs.Ytppgbfkhiofjiaa.Y
set_option linter.unusedVariables false
set_option linter.unusedSimpArgs false

def wrongL (D : DS) : List S102 → Int
  | [] => 0
  | x :: l => if hasB D x.f0 = false then 2 else if x.f1.length ≠ 64 then 6 else wrongL D l
theorem wrongL_ok {D : DS} : ∀ {l : List S102}, wrongL D l = 0 → ∀ x ∈ l, hasB D x.f0 = true ∧ x.f1.length = 64
  | [], _, x, hx => by simp at hx
  | y :: l, h, x, hx => by
    rw [wrongL] at h
    split at h
    · cases h
    · split at h
      · cases h
      · rename_i h1 h2
        rcases List.mem_cons.1 hx with rfl | hx
        · exact ⟨by simpa using h1, by simpa using h2⟩
        · exact wrongL_ok h x hx
/-- What a Commit comes to. -/
def logC (l : List S102) (D : DS) (dn : Bool) : Int × DS × Bool :=
  if dn = true then (230, D, true) else if 64 < l.length then (9, D, false) else if wrongL D l ≠ 0 then (wrongL D l, D, false) else if l.length = 0 then (0, D, false)
  else ((commitD l D).1, (commitD l D).2, (commitD l D).1 != 0)
theorem JOk.logC {i : Nat} {D : DS} (h : JOk i D) (l : List S102) (dn : Bool) : JOk (i + 150) (logC l D dn).2.1 := by
  have hm : JOk (i + 150) D := h.mono (by omega)
  unfold X.logC
  split
  · exact hm
  · split
    · exact hm
    · rename_i h1 h2
      split
      · exact hm
      · split
        · exact hm
        · exact h.commit l (by omega)
/-- What Commit's end says. -/
def ComEnd (lb : Nat) (B : Nat → Prop) (g : Nat) (r : Int × DS × Bool) (w : World) (e : Ending) (w' : World) : Prop :=
  e = .returned (.int .i64 r.1) ∧ (∃ B', IsDisk w' B' g r.2.1 ∧ (∀ k, B' k → B k ∨ w.heap.size ≤ k)) ∧ Fr (fun k => B k ∨ k = lb) w w' ∧ IsLog w' lb g r.2.2
theorem IsLog.put {w : World} {lb g : Nat} {dn : Bool} (h : IsLog w lb g dn) (x : Bool) : IsLog (w.setCell ⟨lb, 1, none⟩ (.bool x)) lb g x := by
  unfold IsLog
  rw [heap_setCell_same w lb 1 _ 104 _ h]
  rfl
theorem ComEnd.stay {lb : Nat} {B : Nat → Prop} {g : Nat} {x : Int} {D : DS} {dn : Bool} {w W : World} (h : IsDisk w B g D) (hlog : IsLog w lb g dn) (f : Fr (fun _ => False) w W) : ComEnd lb B g (x, D, dn) w (.returned (.int .i64 x)) W :=
  ⟨rfl, ⟨B, h.fr f (fun _ _ h => h), fun k h => .inl h⟩, f.mono (fun _ h => h.elim), hlog.kept (f.keep _ hlog.lt (fun h => h))⟩

set_option maxHeartbeats 8000000 in
set_option maxRecDepth 100000 in
theorem com_calls (lb g : Nat) (dn : Bool) (B : Nat → Prop) (D : DS) (A : Option Addr) (cp n : Nat) (l : List S102) (w : World) (i : Nat) (h : IsDisk w B g D) (ho : JOk i D) (hi : i ≤ 100000) (hlog : IsLog w lb g dn) (hlb : ¬ B lb) (hD : 0 ≤ D.n ∧ D.n ≤ 4096)
    (hn : l.length = n) (hn9 : n ≤ 9223372036854775807) (hl : ∀ W', Fr B w W' → Kd.C k102 W' A n l) :
    Calls Try.prog 28 #[.pointer (some ⟨lb, 0, none⟩), .slice A n cp] w (ComEnd lb B g (logC l D dn) w) := by
  obtain ⟨c0, c1, c2⟩ := hlog.cells
  have H := Aside0.mk h
  have HLG := Aside0.mk hlog
  have hlt := hlog.lt
  cases dn with
  | true =>
    have HE : Aside0 (logC l D true = (230, D, true)) := ⟨by unfold logC; rw [if_pos rfl]⟩
    clear h ho hlog hn hl
    go_enter Try.func28, Try.ntmps28
    go_wp2_with fail
    go_ret
    rw [HE.out]
    exact ComEnd.stay H.out HLG.out (Fr.refl _ _)
  | false =>
    by_cases hn64 : 64 < n
    · have HE : Aside0 (logC l D false = (9, D, false)) := ⟨by unfold logC; rw [if_neg (by decide), if_pos (by omega)]⟩
      have hn' : (64 : Int) < (n : Int) := by omega
      clear h ho hlog hn hl
      go_enter Try.func28, Try.ntmps28
      go_wp2_with fail
      go_ret
      rw [HE.out]
      exact ComEnd.stay H.out HLG.out (Fr.refl _ _)
    · have HN := Aside0.mk hn
      have HL := Aside0.mk hl
      have HO := Aside0.mk ho
      have HDB := Aside0.mk hD
      have HE : Aside0 (logC l D false = if wrongL D l ≠ 0 then (wrongL D l, D, false) else if l.length = 0 then (0, D, false) else ((commitD l D).1, (commitD l D).2, (commitD l D).1 != 0)) := ⟨by unfold logC; rw [if_neg (by decide), if_neg (by omega)]⟩
      have hn' : (n : Int) ≤ 64 := by omega
      have HF0 := Aside0.mk (Fr.refl (fun _ => False) w)
      have HW0 : Aside0 (wrongL D l = wrongL D (l.drop 0)) := ⟨by rw [List.drop_zero]⟩
      clear h ho hlog hn hl hn64 hD
      go_enter Try.func28, Try.ntmps28
      go_wp2_with fail
      go_loopg [17] n (fun kq v17 W => ∃ (k : Nat), v17 = .int .i64 (k : Int) ∧ Aside0 (k + kq = n) ∧ Aside0 (Fr (fun _ => False) w W) ∧ Aside0 (wrongL D l = wrongL D (l.drop k)))
      case atStart => exact ⟨0, rfl, ⟨by omega⟩, HF0, HW0⟩
      case round =>
        clear HF0 HW0
        obtain ⟨k, rfl, HI, HF, HW⟩ := hrel
        have hk0 : (0 : Int) ≤ (k : Int) := by omega
        cases gk with
        | zero =>
          have hk : k = n := by have := HI.out; omega
          subst hk
          have hw0 : wrongL D l = 0 := by rw [HW.out, List.drop_eq_nil_of_le (by rw [HN.out]; omega)]; rfl
          have HOK := Aside0.mk (wrongL_ok hw0)
          have HE2 := Aside0.mk (HE.out.trans (if_neg (by rw [hw0]; simp)))
          clear hw0
          have g0 := cellK HF.out c0
          have g1 := cellK HF.out c1
          have glt : lb < wr.heap.size := Nat.lt_of_lt_of_le hlt HF.out.size
          by_cases hk1 : k = 0
          · subst hk1
            have HE3 : Aside0 (logC l D false = (0, D, false)) := ⟨HE2.out.trans (if_pos HN.out)⟩
            go_wp2_with fail
            go_ret
            rw [HE3.out]
            exact ComEnd.stay H.out HLG.out HF.out
          · have HE3 := Aside0.mk (HE2.out.trans (if_neg (by rw [HN.out]; exact hk1)))
            have e0 : ((k : Int) == 0) = false := by simpa using hk1
            have CC := Aside0.mk (commit_calls lb g false B D A cp k l wr i (H.out.fr HF.out (fun _ _ h => h)) HO.out (by omega) (HLG.out.kept (HF.out.keep _ hlt (fun h => h))) hlb HN.out (by omega) (by omega)
              (fun W' f' => HL.out W' ((HF.out.mono (fun _ h => h.elim)).trans f' (fun _ h => .inl h))) (fun x hx => by have := of_decide_eq_true (HOK.out x hx).1; have := HDB.out; omega) (fun x hx => (HOK.out x hx).2))
            clear HE HE2
            go_wp2_with fail
            refine CC.out.mono ?_
            rintro e w2 ⟨rfl, m⟩
            obtain ⟨B2, q1, q2, q3⟩ := m
            have HLG2 : Aside0 (IsLog w2 lb g false) := ⟨(HLG.out.kept (HF.out.keep _ hlt (fun h => h))).kept (q3.keep _ glt hlb)⟩
            obtain ⟨c0', c1', c2'⟩ := HLG2.out.cells
            have glt2 : lb < w2.heap.size := HLG2.out.lt
            have Q1 := Aside0.mk q1
            have Q2 := Aside0.mk q2
            have Q3 : Aside0 (Fr B w w2) := ⟨(HF.out.mono (fun _ h => h.elim)).trans q3 (fun _ h => .inl h)⟩
            obtain ⟨⟨ce, cD⟩, hcr⟩ : ∃ r, commitD l D = r := ⟨_, rfl⟩
            rw [hcr] at Q1 HE3 ⊢
            clear hcr q1 q2 q3 CC g0 g1
            dsimp only at Q1 HE3 ⊢
            go_wp2_with fail
            go_ret
            rw [HE3.out]
            have hnb : ¬ B2 lb := fun hb => (Q2.out lb hb).elim hlb (fun h => by omega)
            refine ⟨rfl, ⟨B2, Q1.out.fr ((Fr.refl (fun k => k = lb) w2).setCell (.inl rfl) _) (fun k hk e => hnb (e ▸ hk)), fun k hk => (Q2.out k hk).imp id (fun h => Nat.le_trans HF.out.size h)⟩, (Q3.out.mono (fun k h => .inl (.inl h))).setCell (.inl (.inr rfl)) _, HLG2.out.put _⟩
        | succ k1 =>
          have hk1 : (k : Int) < (n : Int) := by have := HI.out; omega
          have HI3 : Aside0 (k + 1 + k1 = n) := ⟨by have := HI.out; omega⟩
          obtain ⟨x, hx⟩ : ∃ x, l[k]? = some x := ⟨_, List.getElem?_eq_getElem (by rw [HN.out]; omega)⟩
          obtain ⟨ad, A1, cap1, rfl, g1, g2, g3, g4⟩ := stab_102 (B' := B) HN.out HL.out (Fr.refl B w) (fun _ h => .inl h) hx
          replace g1 := cellK HF.out g1
          replace g2 := cellK HF.out g2
          have hdr : wrongL D (l.drop k) = if hasB D x.f0 = false then 2 else if x.f1.length ≠ 64 then 6 else wrongL D (l.drop (k + 1)) := by
            obtain ⟨hlt, hget⟩ := List.getElem?_eq_some_iff.1 hx
            rw [List.drop_eq_getElem_cons hlt, hget, wrongL]
          have HW2 := Aside0.mk (HW.out.trans hdr)
          have fa : Fr (fun _ => False) wr (wr.alloc (.cells #[.int .i64 x.f0, .slice A1 x.f1.length cap1] 102)) := (Fr.refl _ _).alloc _
          have HF2 : Aside0 (Fr (fun _ => False) w (wr.alloc (.cells #[.int .i64 x.f0, .slice A1 x.f1.length cap1] 102))) := ⟨HF.out.trans fa (fun _ h => h.elim)⟩
          have HC := has_calls lb g false B D x.f0 _ (H.out.fr HF2.out (fun _ _ h => h)) (HLG.out.kept (HF2.out.keep _ hlt (fun h => h))) HDB.out
          obtain ⟨hb, hhb⟩ : ∃ hb, hasB D x.f0 = hb := ⟨_, rfl⟩
          rw [hhb] at HC HW2
          have HC := Aside0.mk HC
          obtain ⟨m, hm⟩ : ∃ m, x.f1.length = m := ⟨_, rfl⟩
          rw [hm] at HC HW2 HF2 g2
          have hm9 : m ≤ 9223372036854775807 := by rw [← hm]; exact (g4 w (Fr.refl _ _)).2.1
          clear hdr fa hx g3 g4 HW hhb hm HF
          cases hb with
          | false =>
            have HE3 : Aside0 (logC l D false = (2, D, false)) := ⟨by rw [HE.out, HW2.out]; rfl⟩
            go_wp2_with fail
            refine HC.out.mono ?_
            rintro e w2 ⟨rfl, rfl⟩
            go_wp2_with fail
            go_ret
            rw [HE3.out]
            exact ComEnd.stay H.out HLG.out HF2.out
          | true =>
            by_cases hm64 : m = 64
            · subst hm64
              have HW3 : Aside0 (wrongL D l = wrongL D (l.drop (k + 1))) := ⟨by rw [HW2.out]; rfl⟩
              go_wp2_with fail
              refine HC.out.mono ?_
              rintro e w2 ⟨rfl, rfl⟩
              go_wp2_with fail
              go_roundg k1
              case measure => omega
              case rel => exact ⟨k + 1, by go_num, HI3, HF2, HW3⟩
            · have HE3 : Aside0 (logC l D false = (6, D, false)) := ⟨by
                have hw : wrongL D l = 6 := by rw [HW2.out, if_neg (by simp), if_pos hm64]
                rw [HE.out, hw]
                rfl⟩
              have e1 : ((m : Int) != 64) = true := by simp; omega
              go_wp2_with fail
              refine HC.out.mono ?_
              rintro e w2 ⟨rfl, rfl⟩
              go_wp2_with fail
              go_ret
              rw [HE3.out]
              exact ComEnd.stay H.out HLG.out HF2.out
end Go.Proofs.Ytppgbfkhiofjiaa.X
