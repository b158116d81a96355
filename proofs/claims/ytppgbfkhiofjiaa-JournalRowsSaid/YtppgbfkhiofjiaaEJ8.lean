/-
  The journal: the contracts of a journal's Sectors, has, Read; of sectors.
-/
import Derived.Test.YtppgbfkhiofjiaaEJY
namespace Go.Proofs.Ytppgbfkhiofjiaa.X
open Go.RowKit Go.Proofs.YtppgbfkhiofjiaaW.PrintWords Go.Proofs.YtppgbfkhiofjiaaW.PrintLast Go.Proofs.YtppgbfkhiofjiaaW.PrintMore Go.Proofs.Ytppgbfkhiofjiaa.Y
set_option linter.unusedVariables false
set_option linter.unusedSimpArgs false

def hasB (D : DS) (n : Int) : Bool := decide (0 ≤ n ∧ n < D.n - 69)

set_option maxHeartbeats 4000000 in
set_option maxRecDepth 100000 in
theorem logsect_calls (lb g : Nat) (dn : Bool) (B : Nat → Prop) (D : DS) (w : World) (h : IsDisk w B g D) (hlog : IsLog w lb g dn) (hn : 0 ≤ D.n ∧ D.n ≤ 4096) :
    Calls Try.prog 55 #[.pointer (some ⟨lb, 0, none⟩)] w fun e w' => e = .returned (.int .i64 (D.n - 69)) ∧ w' = w := by
  have SC := Aside0.mk (sect_calls g B D w h)
  obtain ⟨c0, c1, c2⟩ := hlog.cells
  obtain ⟨h1, h2⟩ := hn
  clear h c1 c2 hlog
  go_enter Try.func55, Try.ntmps55
  go_wp2_with fail
  refine SC.out.mono ?_
  rintro e w' ⟨rfl, rfl⟩
  go_wp2_with fail
  go_ret
  exact ⟨rfl, rfl⟩

set_option maxHeartbeats 4000000 in
set_option maxRecDepth 100000 in
theorem has_calls (lb g : Nat) (dn : Bool) (B : Nat → Prop) (D : DS) (n : Int) (w : World) (h : IsDisk w B g D) (hlog : IsLog w lb g dn) (hn : 0 ≤ D.n ∧ D.n ≤ 4096) :
    Calls Try.prog 57 #[.pointer (some ⟨lb, 0, none⟩), .int .i64 n] w fun e w' => e = .returned (.bool (hasB D n)) ∧ w' = w := by
  have SC := Aside0.mk (logsect_calls lb g dn B D w h hlog hn)
  by_cases h0 : 0 ≤ n
  · have HB : Aside0 (hasB D n = decide (n < D.n - 69)) := ⟨by unfold hasB; simp [h0]⟩
    clear h hlog hn
    go_enter Try.func57, Try.ntmps57
    go_wp2_with fail
    refine SC.out.mono ?_
    rintro e w' ⟨rfl, rfl⟩
    go_wp2_with fail
    go_ret
    exact ⟨by rw [HB.out]; rfl, rfl⟩
  · have HB : Aside0 (hasB D n = false) := ⟨by unfold hasB; simp [h0]⟩
    have h0' : n < 0 := by omega
    clear h hlog hn
    go_enter Try.func57, Try.ntmps57
    go_wp2_with fail
    go_ret
    exact ⟨by rw [HB.out]; rfl, rfl⟩

def rd64 (D : DS) (k : Int) : List Int := readC k D.c (D.f k)
theorem has_look {D : DS} {n : Int} (h : hasB D n = true) : lookD D (69 + n) = if D.down = true then 230 else 0 := by
  unfold hasB at h
  have h := of_decide_eq_true h
  unfold lookD
  split
  · rfl
  · rw [if_neg (by omega), if_neg (by omega)]

set_option maxHeartbeats 4000000 in
set_option maxRecDepth 100000 in
theorem lread_no (lb g : Nat) (dn : Bool) (B : Nat → Prop) (D : DS) (n : Int) (w : World) (h : IsDisk w B g D) (hlog : IsLog w lb g dn) (hn : 0 ≤ D.n ∧ D.n ≤ 4096) (hh : hasB D n = false) :
    Calls Try.prog 56 #[.pointer (some ⟨lb, 0, none⟩), .int .i64 n] w fun e w' => e = .returned (.tuple #[.slice none 0 0, .int .i64 2]) ∧ w' = w := by
  have HC := has_calls lb g dn B D n w h hlog hn
  rw [hh] at HC
  have HC := Aside0.mk HC
  clear h hlog hn hh
  go_enter Try.func56, Try.ntmps56
  go_wp2_with fail
  refine HC.out.mono ?_
  rintro e w' ⟨rfl, rfl⟩
  go_wp2_with fail
  go_ret2
  exact ⟨rfl, rfl⟩
set_option maxHeartbeats 4000000 in
set_option maxRecDepth 100000 in
theorem lread_down (lb g : Nat) (dn : Bool) (B : Nat → Prop) (D : DS) (n : Int) (w : World) (h : IsDisk w B g D) (hlog : IsLog w lb g dn) (hn : 0 ≤ D.n ∧ D.n ≤ 4096) (hh : hasB D n = true) (hd : D.down = true) :
    Calls Try.prog 56 #[.pointer (some ⟨lb, 0, none⟩), .int .i64 n] w fun e w' => e = .returned (.tuple #[.slice none 0 0, .int .i64 230]) ∧ Drawn0 w w' := by
  have HC := has_calls lb g dn B D n w h hlog hn
  rw [hh] at HC
  have HC := Aside0.mk HC
  have hlk := has_look hh
  rw [if_pos hd] at hlk
  have RC := read_bad g B D (69 + n) w h (by rw [hlk]; decide)
  rw [hlk] at RC
  have RC := Aside0.mk RC
  have hr := of_decide_eq_true hh
  obtain ⟨r1, r2⟩ := hr
  obtain ⟨n1, n2⟩ := hn
  obtain ⟨c0, c1, c2⟩ := hlog.cells
  clear h hlog hh hd hlk c1 c2
  go_enter Try.func56, Try.ntmps56
  go_wp2_with fail
  refine HC.out.mono ?_
  rintro e w' ⟨rfl, rfl⟩
  go_wp2_with fail
  refine RC.out.mono ?_
  rintro e w' ⟨rfl, hd⟩
  have HD := Aside0.mk hd
  clear hd
  go_wp2_with fail
  go_ret2
  exact ⟨rfl, HD.out⟩
set_option maxHeartbeats 4000000 in
set_option maxRecDepth 100000 in
theorem lread_yes (lb g : Nat) (dn : Bool) (B : Nat → Prop) (D : DS) (n : Int) (w : World) (h : IsDisk w B g D) (hlog : IsLog w lb g dn) (hn : 0 ≤ D.n ∧ D.n ≤ 4096) (hh : hasB D n = true) (hd : D.down = false) (hc : D.c.length ≤ 1000000) :
    Calls Try.prog 56 #[.pointer (some ⟨lb, 0, none⟩), .int .i64 n] w fun e w' => ∃ gb, e = .returned (.tuple #[.slice (some ⟨gb, 0, none⟩) 64 64, .int .i64 0]) ∧ w.heap.size ≤ gb ∧ IsArr w' gb (rd64 D (69 + n)) ∧ Fr (fun _ => False) w w' := by
  have HC := has_calls lb g dn B D n w h hlog hn
  rw [hh] at HC
  have HC := Aside0.mk HC
  have hlk := has_look hh
  rw [if_neg (by rw [hd]; decide)] at hlk
  have hr := of_decide_eq_true hh
  obtain ⟨r1, r2⟩ := hr
  obtain ⟨n1, n2⟩ := hn
  have RC := Aside0.mk (read_calls g B D (69 + n) w h hlk (WalkArith.wf_i64 (by omega)) hc)
  obtain ⟨c0, c1, c2⟩ := hlog.cells
  clear h hlog hh hd hlk c1 c2 hc
  go_enter Try.func56, Try.ntmps56
  go_wp2_with fail
  refine HC.out.mono ?_
  rintro e w' ⟨rfl, rfl⟩
  go_wp2_with fail
  refine RC.out.mono ?_
  rintro e w' ⟨gb, rfl, h1, h2, h3⟩
  have H := Aside0.mk (And.intro h1 (And.intro h2 h3))
  clear h1 h2 h3
  go_wp2_with fail
  go_ret2
  exact ⟨gb, rfl, H.out⟩

/-! ### sectors -/
def sectL (D : DS) (a : Int) : Nat → List Int
  | 0 => []
  | n + 1 => sectL D a n ++ rd64 D (a + n)
theorem IsDisk.rd64_length {w : World} {B : Nat → Prop} {g : Nat} {D : DS} (h : IsDisk w B g D) (k : Int) : (rd64 D k).length = 64 := by
  obtain ⟨hg, hf⟩ := h.good
  have key : ∀ (c : List (Int × List Int)) (b : List Int), (∀ p ∈ c, p.2.length = 64) → b.length = 64 → (readC k c b).length = 64 := by
    intro c
    induction c with
    | nil => intro b _ hb; exact hb
    | cons p c ih =>
      intro b hp hb
      rw [readC]
      refine ih _ (fun q hq => hp q (by simp [hq])) ?_
      split
      · exact hp p (by simp)
      · exact hb
  exact key _ _ (fun p hp => (hg p hp).1) (hf k)
theorem IsDisk.sectL_length {w : World} {B : Nat → Prop} {g : Nat} {D : DS} (h : IsDisk w B g D) (a : Int) : ∀ n, (sectL D a n).length = n * 64
  | 0 => rfl
  | n + 1 => by rw [sectL, List.length_append, h.sectL_length a n, h.rd64_length]; omega
theorem IsArr.reads {w : World} {b : Nat} {l : List Int} (h : IsArr w b l) (hl : l.length = 64) : ReadsInt w .u8 (some ⟨b, 0, none⟩) 64 l := ⟨hl, by omega, fun _ => ⟨_, rfl, fun j hj => by
  rw [Addr.add_mid, Nat.zero_add]
  exact h.cell j (by omega)⟩⟩

set_option maxHeartbeats 4000000 in
set_option maxRecDepth 100000 in
theorem sectors_row (g : Nat) (B : Nat → Prop) (D : DS) (a : Int) (n : Nat) (w : World) (h : IsDisk w B g D) (hd : D.down = false) (ha : 0 ≤ a ∧ a ≤ 1000) (hn : n ≤ 1000) (hr : a + n ≤ D.n) (hc : D.c.length ≤ 1000000) :
    Calls Try.prog 81 #[.pointer (some ⟨g, 0, none⟩), .int .i64 a, .int .i64 (n : Int)] w fun e w' => ∃ v, e = .returned v ∧ w'.ownsRow w.heap.size 5 1 v (sectL D a n).length (nums .u8 (sectL D a n)) ∧ Below w.heap.size w w' := by
  have H := Aside0.mk h
  have HD := Aside0.mk hd
  have HC := Aside0.mk hc
  have HR := Aside0.mk hr
  obtain ⟨a1, a2⟩ := ha
  have HO0 : Aside0 (w.ownsRow w.heap.size 5 1 (.slice none 0 0) (sectL D a 0).length (nums .u8 (sectL D a 0))) := ⟨⟨rfl, .inl ⟨rfl, rfl⟩⟩⟩
  have HB0 := Aside0.mk (Below.refl w.heap.size w)
  clear h hd hc hr
  go_enter Try.func81, Try.ntmps81
  go_wp2_with fail
  go_loopg [7, 12] n (fun kq v7 v12 W => ∃ (k : Nat), v12 = .int .i64 (k : Int) ∧ Aside0 (k + kq = n) ∧ Aside0 (W.ownsRow w.heap.size 5 1 v7 (sectL D a k).length (nums .u8 (sectL D a k))) ∧ Aside0 (Below w.heap.size w W))
  case atStart => exact ⟨0, rfl, ⟨by omega⟩, HO0, HB0⟩
  case round =>
    clear HO0 HB0
    obtain ⟨k, rfl, HI, HO, HB⟩ := hrel
    have hk0 : (0 : Int) ≤ (k : Int) := by omega
    cases gk with
    | zero =>
      have hk : k = n := by have := HI.out; omega
      subst hk
      go_wp2_with fail
      go_ret
      exact ⟨_, rfl, HO.out, HB.out⟩
    | succ k1 =>
      have hk1 : (k : Int) < (n : Int) := by have := HI.out; omega
      have HI3 : Aside0 (k + 1 + k1 = n) := ⟨by have := HI.out; omega⟩
      have hDr : IsDisk wr B g D := H.out.fr (Fr.of_below HB.out (fun _ => False)) (fun _ _ h => h)
      have hlk : lookD D (a + k) = 0 := by
        unfold lookD
        rw [HD.out, if_neg (by decide), if_neg (by omega), if_neg (by have := HR.out; omega)]
      have RC := Aside0.mk (read_calls g B D (a + k) wr hDr hlk (WalkArith.wf_i64 (by omega)) HC.out)
      have HL := Aside0.mk (hDr.rd64_length (a + k))
      have HS := Aside0.mk (hDr.sectL_length a k)
      clear hDr hlk
      go_wp2_with fail
      refine RC.out.mono ?_
      rintro e w2 ⟨gb, rfl, h1, h2, h3⟩
      have HA : Aside0 (ReadsInt w2 .u8 (some ⟨gb, 0, none⟩) 64 (rd64 D (a + k))) := ⟨IsArr.reads h2 HL.out⟩
      have HB2 : Aside0 (Below w.heap.size w w2) := ⟨HB.out.trans (h3.below (fun _ h => h.elim) HB.out.size)⟩
      have HO2 : Aside0 (w2.ownsRow w.heap.size 5 1 u7 (sectL D a k).length (nums .u8 (sectL D a k))) := ⟨ownsRow_kept HO.out (fun b e => h3.keep b (own_lt HO.out b e) (fun h => h))⟩
      clear h1 h2 h3 RC HO HB
      go_wp2_with ((with_reducible refine gate_builtin (b := .append) (xs := #[.tmp 23, .tmp 24]) rfl ?_); at_builtin; refine print_append_row w.heap.size rfl (.tmp 23) (.tmp 24) 22 5 .u8 1 rfl Try.underlying22 info5 (by omega) u7 (sectL D a k) (rd64 D (a + k)) (some ⟨gb, 0, none⟩) 64 64 rfl rfl HO2.out HA.out HB2.out HB2.out.size (by have := HS.out; omega) ?_; intro v3 w3 q1 q2 q3 q4)
      have HO3 : Aside0 (w3.ownsRow w.heap.size 5 1 v3 (sectL D a (k + 1)).length (nums .u8 (sectL D a (k + 1)))) := ⟨q1⟩
      have HB3 := Aside0.mk q2
      clear q1 q2 q3 q4 HO2 HA HB2
      go_roundg k1
      case measure => omega
      case rel => exact ⟨k + 1, by go_num, HI3, HO3, HB3⟩
end Go.Proofs.Ytppgbfkhiofjiaa.X
