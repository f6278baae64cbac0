/- The document's answer, layer 10: Right, four. The document's answer, layer 10: Bytes. The document's answer, layer 10: Read. (under way) -/
import Derived.Test.YtbokggilfepdhaaNvLaw
import Derived.Test.YtbokggilfepdhaaNvRight
import Derived.Test.YtbokggilfepdhaaAppN
import Derived.Test.YtbokggilfepdhaaCopyB
import Derived.Test.YtbokggilfepdhaaRck
import Derived.Test.YtbokggilfepdhaaHeld
import Derived.Test.YtbokggilfepdhaaNvBytes
import Derived.Test.YtbokggilfepdhaaNvRead
import Derived.Test.YtbokggilfepdhaaNvOpen
namespace Go.Proofs.Ytbokggilfepdhaa
open Go.RowKit
set_option linter.unusedVariables false
attribute [local go_sem] Later.cell Later.frozen setCell_twice
set_option maxRecDepth 100000 in
set_option maxHeartbeats 1000000 in
theorem rright_go (what tx who n : Nat) (yes : Bool) (A : Option Addr) (c : Nat) (w : World) (r : Bool) (hr : decide ((what = 2 ∧ 0 < who ∧ yes = false ∧ n ≤ 8192) ∨ ((what = 1 ∨ what = 3 ∨ what = 4) ∧ who = 0 ∧ n = 0 ∧ (yes = false ∨ what = 3))) = r) :
    Calls Try.prog 33 #[.agg (rcV what tx who yes A n c).toArray] w fun e w' => e = .returned (.bool r) ∧ Below w.heap.size w w' := by
  have HR := Lib.hid hr
  clear hr
  by_cases hw : what = 2
  · subst hw
    by_cases h1 : 0 < who
    · have g1 : decide ((0 : Int) < (who : Int)) = true := decide_eq_true (by omega)
      have g1n : decide (0 < who) = true := decide_eq_true h1
      cases yes
      · by_cases h2 : n ≤ 8192
        · have g2 : decide ((n : Int) ≤ 8192) = true := decide_eq_true (by omega)
          obtain rfl : r = true := by
            rw [← HR.out]
            exact decide_eq_true (by first | (simp; done) | (simp; omega) | omega)
          go_enter Try.func33, Try.ntmps33
          go_wp2
          go_ret
          exact ⟨rfl, bel_alloc (Below.refl _ _) _⟩
        · have g2 : decide ((n : Int) ≤ 8192) = false := decide_eq_false (by omega)
          obtain rfl : r = false := by
            rw [← HR.out]
            exact decide_eq_false (by first | (simp; done) | (simp; omega) | omega)
          go_enter Try.func33, Try.ntmps33
          go_wp2
          go_ret
          exact ⟨rfl, bel_alloc (Below.refl _ _) _⟩
      · obtain rfl : r = false := by
          rw [← HR.out]
          exact decide_eq_false (by first | (simp; done) | (simp; omega) | omega)
        go_enter Try.func33, Try.ntmps33
        go_wp2
        go_ret
        exact ⟨rfl, bel_alloc (Below.refl _ _) _⟩
    · obtain rfl : who = 0 := by omega
      obtain rfl : r = false := by
        rw [← HR.out]
        exact decide_eq_false (by first | (simp; done) | (simp; omega) | omega)
      go_enter Try.func33, Try.ntmps33
      go_wp2
      go_ret
      exact ⟨rfl, bel_alloc (Below.refl _ _) _⟩
  · have w2 : ((what : Int) == 2) = false := by simp; omega
    by_cases hw1 : what = 1
    · subst hw1
      by_cases h1 : who = 0
      · have g1 : ((who : Int) == 0) = true := by subst h1; rfl
        by_cases h2 : n = 0
        · have g2 : ((n : Int) == 0) = true := by subst h2; rfl
          cases yes
          · obtain rfl : r = true := by
              rw [← HR.out]
              exact decide_eq_true (by first | (simp; done) | (simp; omega) | omega)
            go_enter Try.func33, Try.ntmps33
            go_wp2
            go_ret
            exact ⟨rfl, bel_alloc (Below.refl _ _) _⟩
          · obtain rfl : r = false := by
              rw [← HR.out]
              exact decide_eq_false (by first | (simp; done) | (simp; omega) | omega)
            go_enter Try.func33, Try.ntmps33
            go_wp2
            go_ret
            exact ⟨rfl, bel_alloc (Below.refl _ _) _⟩
        · have g2 : ((n : Int) == 0) = false := by simp; omega
          obtain rfl : r = false := by
            rw [← HR.out]
            exact decide_eq_false (by first | (simp; done) | (simp; omega) | omega)
          go_enter Try.func33, Try.ntmps33
          go_wp2
          go_ret
          exact ⟨rfl, bel_alloc (Below.refl _ _) _⟩
      · have g1 : ((who : Int) == 0) = false := by simp; omega
        obtain rfl : r = false := by
          rw [← HR.out]
          exact decide_eq_false (by first | (simp; done) | (simp; omega) | omega)
        go_enter Try.func33, Try.ntmps33
        go_wp2
        go_ret
        exact ⟨rfl, bel_alloc (Below.refl _ _) _⟩
    · have w1 : ((what : Int) == 1) = false := by simp; omega
      by_cases hw3 : what = 3
      · subst hw3
        by_cases h1 : who = 0
        · have g1 : ((who : Int) == 0) = true := by subst h1; rfl
          by_cases h2 : n = 0
          · have g2 : ((n : Int) == 0) = true := by subst h2; rfl
            cases yes
            · obtain rfl : r = true := by
                rw [← HR.out]
                exact decide_eq_true (by first | (simp; done) | (simp; omega) | omega)
              go_enter Try.func33, Try.ntmps33
              go_wp2
              go_ret
              exact ⟨rfl, bel_alloc (Below.refl _ _) _⟩
            · obtain rfl : r = true := by
                rw [← HR.out]
                exact decide_eq_true (by first | (simp; done) | (simp; omega) | omega)
              go_enter Try.func33, Try.ntmps33
              go_wp2
              go_ret
              exact ⟨rfl, bel_alloc (Below.refl _ _) _⟩
          · have g2 : ((n : Int) == 0) = false := by simp; omega
            obtain rfl : r = false := by
              rw [← HR.out]
              exact decide_eq_false (by first | (simp; done) | (simp; omega) | omega)
            go_enter Try.func33, Try.ntmps33
            go_wp2
            go_ret
            exact ⟨rfl, bel_alloc (Below.refl _ _) _⟩
        · have g1 : ((who : Int) == 0) = false := by simp; omega
          obtain rfl : r = false := by
            rw [← HR.out]
            exact decide_eq_false (by first | (simp; done) | (simp; omega) | omega)
          go_enter Try.func33, Try.ntmps33
          go_wp2
          go_ret
          exact ⟨rfl, bel_alloc (Below.refl _ _) _⟩
      · have w3 : ((what : Int) == 3) = false := by simp; omega
        by_cases hw4 : what = 4
        · subst hw4
          by_cases h1 : who = 0
          · have g1 : ((who : Int) == 0) = true := by subst h1; rfl
            by_cases h2 : n = 0
            · have g2 : ((n : Int) == 0) = true := by subst h2; rfl
              cases yes
              · obtain rfl : r = true := by
                  rw [← HR.out]
                  exact decide_eq_true (by first | (simp; done) | (simp; omega) | omega)
                go_enter Try.func33, Try.ntmps33
                go_wp2
                go_ret
                exact ⟨rfl, bel_alloc (Below.refl _ _) _⟩
              · obtain rfl : r = false := by
                  rw [← HR.out]
                  exact decide_eq_false (by first | (simp; done) | (simp; omega) | omega)
                go_enter Try.func33, Try.ntmps33
                go_wp2
                go_ret
                exact ⟨rfl, bel_alloc (Below.refl _ _) _⟩
            · have g2 : ((n : Int) == 0) = false := by simp; omega
              obtain rfl : r = false := by
                rw [← HR.out]
                exact decide_eq_false (by first | (simp; done) | (simp; omega) | omega)
              go_enter Try.func33, Try.ntmps33
              go_wp2
              go_ret
              exact ⟨rfl, bel_alloc (Below.refl _ _) _⟩
          · have g1 : ((who : Int) == 0) = false := by simp; omega
            obtain rfl : r = false := by
              rw [← HR.out]
              exact decide_eq_false (by first | (simp; done) | (simp; omega) | omega)
            go_enter Try.func33, Try.ntmps33
            go_wp2
            go_ret
            exact ⟨rfl, bel_alloc (Below.refl _ _) _⟩
        · have w4 : ((what : Int) == 4) = false := by simp; omega
          obtain rfl : r = false := by
            rw [← HR.out]
            exact decide_eq_false (by first | (simp; done) | (simp; omega) | omega)
          go_enter Try.func33, Try.ntmps33
          go_wp2
          go_ret
          exact ⟨rfl, bel_alloc (Below.refl _ _) _⟩
theorem rright_any (x : Nr) (A : Option Addr) (c n : Nat) (hn : x.text.length = n) (w : World) :
    Calls Try.prog 33 #[.agg (rcV x.what x.tx x.who x.yes A n c).toArray] w fun e w' => e = .returned (.bool x.right) ∧ Below w.heap.size w w' :=
  rright_go _ _ _ _ _ _ _ _ _ (by rw [← hn]; rfl)
set_option maxHeartbeats 400000 in
theorem rfour_any (x : Nat) (hx : x < 4294967296) (w : World) :
    Calls Try.prog 54 #[.int .u32 (x : Int)] w fun e w' => e = .returned (.slice (some ⟨w.heap.size, 0, none⟩) 4 4) ∧ w'.ownsRow w.heap.size 5 1 (.slice (some ⟨w.heap.size, 0, none⟩) 4 4) 4 ((Nr.four x).map byw) ∧ Below w.heap.size w w' := by
  obtain ⟨a0, h0⟩ : ∃ a0, x / 16777216 = a0 := ⟨_, rfl⟩
  obtain ⟨a1, h1⟩ : ∃ a1, x / 65536 % 256 = a1 := ⟨_, rfl⟩
  obtain ⟨a2, h2⟩ : ∃ a2, x / 256 % 256 = a2 := ⟨_, rfl⟩
  obtain ⟨a3, h3⟩ : ∃ a3, x % 256 = a3 := ⟨_, rfl⟩
  have i0 : (x : Int) / 16777216 = (a0 : Int) := by omega
  have i1 : (x : Int) / 65536 % 256 = (a1 : Int) := by omega
  have i2 : (x : Int) / 256 % 256 = (a2 : Int) := by omega
  have i3 : (x : Int) % 256 = (a3 : Int) := by omega
  have HL : Hid (Nr.four x = [a0, a1, a2, a3]) := Lib.hid (by rw [← h0, ← h1, ← h2, ← h3]; rfl)
  clear h0 h1 h2 h3
  go_enter Try.func54, Try.ntmps54
  go_wp2
  go_ret
  refine ⟨rfl, ?_, bel_alloc (Below.refl _ _) _⟩
  rw [HL.out]
  exact ⟨rfl, .inr ⟨w.heap.size, 4, _, rfl, Nat.le_refl _, heap_alloc_new w _, Nat.le_refl _, by simp [maxLen], rfl, by simp⟩⟩
end Go.Proofs.Ytbokggilfepdhaa
namespace Go.Proofs.Ytbokggilfepdhaa
open Go.RowKit
set_option linter.unusedVariables false
set_option linter.unusedSimpArgs false
attribute [local go_sem] Later.cell Later.frozen setCell_twice
theorem own_lit1 (w : World) (e : TypeId) (g : Nat) (hg : g = w.heap.size) (v : Value) : (w.alloc (.cells #[v] e)).ownsRow g e 1 (.slice (some ⟨g, 0, none⟩) 1 1) 1 [v] := by
  subst hg
  exact ⟨rfl, .inr ⟨w.heap.size, 1, #[v], rfl, Nat.le_refl _, heap_alloc_new w _, by omega, by simp [maxLen], by simp, by simp⟩⟩
set_option maxRecDepth 100000 in
set_option maxHeartbeats 1000000 in
theorem rbytes_any (x : Nr) (A : Option Addr) (c n : Nat) (hn : x.text.length = n) (hf : x.Fit) (hn2 : n ≤ 1000000) (w : World) (hsq : Sq byw w w.heap.size A x.text) (hA : A = none → c = 0) :
    Calls Try.prog 34 #[.agg (rcV x.what x.tx x.who x.yes A n c).toArray] w fun e w' => ∃ A' c', e = .returned (.slice A' x.bytes.length c') ∧ w'.ownsRow w.heap.size 5 1 (.slice A' x.bytes.length c') x.bytes.length (x.bytes.map byw) ∧ Below w.heap.size w w' := by
  obtain ⟨i0, hif, hz0, hz1, hz2⟩ := info_parts info_b8
  have HN := Lib.hid hn
  have HSQ := Lib.hid hsq
  have HF := Lib.hid hf
  obtain ⟨nh, hnh⟩ : ∃ nh, n / 256 % 256 = nh := ⟨_, rfl⟩
  obtain ⟨nl, hnl⟩ : ∃ nl, n % 256 = nl := ⟨_, rfl⟩
  have hnhI : (n : Int) / 256 % 256 = (nh : Int) := by omega
  have hnlI : (n : Int) % 256 = (nl : Int) := by omega
  have hnl2 : (nl : Int) % 256 = (nl : Int) := by omega
  have HNH := Lib.hid hnh
  have HNL := Lib.hid hnl
  clear hsq hf hn hnh hnl
  go_enter Try.func34, Try.ntmps34
  go_wp2_with fail
  obtain ⟨wa, hwa⟩ : ∃ wa, w.alloc (.cells #[.int .u8 (x.what : Int), .int .u32 (x.tx : Int), .int .u8 (x.who : Int), .bool x.yes, .slice A n c] 34) = wa := ⟨_, rfl⟩
  have R0 : Hid (RowAt wa w.heap.size 34 (rcV x.what x.tx x.who x.yes A n c)) := Lib.hid (by rw [← hwa]; exact heap_alloc_new w _)
  have BE0 : Hid (Below w.heap.size w wa) := Lib.hid (by rw [← hwa]; exact bel_alloc (Below.refl _ _) _)
  have hlt' : w.heap.size < wa.heap.size := R0.out.lt
  obtain ⟨gb, hgb⟩ : ∃ gb, wa.heap.size = gb := ⟨_, rfl⟩
  have HGB := Lib.hid hgb
  have hlt : w.heap.size < gb := by omega
  have hgba : gb ≤ wa.heap.size := by omega
  have d0 : wa.cell? ⟨w.heap.size, 0, none⟩ = some (.int .u8 (x.what : Int)) := R0.out.cells 0
  have d1 : wa.cell? ⟨w.heap.size, 1, none⟩ = some (.int .u32 (x.tx : Int)) := R0.out.cells 1
  rw [hwa]
  clear hwa hgb
  refine wp_region_held_drew (S := (fun w' => w'.cell? ⟨w.heap.size, 0, none⟩ = some (.int .u8 (x.what : Int)) ∧ w'.cell? ⟨w.heap.size, 1, none⟩ = some (.int .u32 (x.tx : Int)))) (by kernel_rfl) ?_ (fun hHeld => ?_)
  · exact ⟨d0, d1⟩
  refine takeD (i := 0) (oi := _) (v := ?vv1) (d := some 5) rfl (by kernel_rfl) (by kernel_rfl) (by kernel_rfl) (by kernel_rfl) (fun _ _ _ h => h) (Or.inl ⟨by kernel_rfl, ?_⟩) (by assumption) ?_
  rotate_left 1
  · intro W_ hSw; (try dsimp only at hSw); go_simp; (first | done | with_reducible rfl)
  try simp only [Act.put, List.setIfInBounds_toArray, List.set_cons_zero, List.set_cons_succ]
  refine takeD (i := 1) (oi := _) (v := ?vv2) (d := some 6) rfl (by kernel_rfl) (by kernel_rfl) (by kernel_rfl) (by kernel_rfl) (fun _ _ _ h => h) (Or.inl ⟨by kernel_rfl, ?_⟩) (by assumption) ?_
  rotate_left 1
  · intro W_ hSw; (try dsimp only at hSw); go_simp; (first | done | with_reducible rfl)
  try simp only [Act.put, List.setIfInBounds_toArray, List.set_cons_zero, List.set_cons_succ]
  refine takeD (i := 3) (oi := _) (v := ?vv3) (d := some 8) rfl (by kernel_rfl) (by kernel_rfl) (by kernel_rfl) (by kernel_rfl) (fun _ _ _ h => h) (Or.inl ⟨by kernel_rfl, ?_⟩) (by assumption) ?_
  rotate_left 1
  · intro W_ hSw; (try dsimp only at hSw); go_simp; (first | done | with_reducible rfl)
  try simp only [Act.put, List.setIfInBounds_toArray, List.set_cons_zero, List.set_cons_succ]
  refine takeD (i := 4) (oi := _) (v := ?vv4) (d := some 9) rfl (by kernel_rfl) (by kernel_rfl) (by kernel_rfl) (by kernel_rfl) (fun _ _ _ h => h) (Or.inl ⟨by kernel_rfl, ?_⟩) (by assumption) ?_
  rotate_left 1
  · intro W_ hSw; (try dsimp only at hSw); go_simp; (first | done | with_reducible rfl)
  try simp only [Act.put, List.setIfInBounds_toArray, List.set_cons_zero, List.set_cons_succ]
  refine wpAnyH_ready (rs := [2, 5]) (by kernel_rfl) (by simp) ?_
  refine AllReadyH.cons (o := _) rfl (fun K hK => ?_) (AllReadyH.cons (o := _) rfl (fun K hK => ?_) AllReadyH.nil)
  · go_simp
    refine hK.out _ _ ?_ (fun hHeld => ?_)
    · exact ⟨keep_alloc d0, keep_alloc d1⟩
    clear hK K
    try simp only [Act.put]
    try simp only [List.setIfInBounds_toArray]
    try simp only [List.set_cons_succ]
    try simp only [List.set_cons_zero]
    refine wpAnyH_ready (rs := [5]) (by kernel_rfl) (by simp) ?_
    refine AllReadyH.cons (o := _) rfl (fun K hK => ?_) AllReadyH.nil
    go_simp
    (go_at_call 54; (with_reducible refine (rfour_any x.tx HF.out.tx _).mono ?_); rintro e w4 ⟨rfl, o4, b4⟩; have O4 := Lib.hid o4; have B40 := Lib.hid b4; have B4 : Hid (Below gb wa w4) := Lib.hid (((Below.refl gb wa).drew.alloc (by simp; omega) (.cells #[byw x.what] 5)).trans (b4.mono (by simp; omega))); have f0 : w4.cell? ⟨w.heap.size, 0, none⟩ = some (.int .u8 (x.what : Int)) := (B4.out.cell (p := ⟨w.heap.size, 0, none⟩) hlt).trans d0; have f1 : w4.cell? ⟨w.heap.size, 1, none⟩ = some (.int .u32 (x.tx : Int)) := (B4.out.cell (p := ⟨w.heap.size, 1, none⟩) hlt).trans d1; clear o4 b4)
    go_wp2_with fail
    refine hK.out _ _ ?_ (fun hHeld => ?_)
    · exact ⟨f0, f1⟩
    clear hK K
    try simp only [Act.put, List.setIfInBounds_toArray, List.set_cons_zero, List.set_cons_succ]
    have hg4 : gb ≤ w4.heap.size := Nat.le_trans hgba B4.out.size
    have SF : Hid (Sq byw w4 w4.heap.size (some ⟨wa.heap.size + 1, 0, none⟩) (Nr.four x.tx)) := Lib.hid (by have q := Sq.of_own O4.out; rw [show ((wa.alloc (.cells #[.int .u8 (x.what : Int)] 5)).drew).heap.size = wa.heap.size + 1 by simp] at q; exact q)
    have OX : Hid (w4.ownsRow gb 5 1 (.slice (some ⟨wa.heap.size, 0, none⟩) 1 1) 1 ([x.what].map byw)) := Lib.hid (own_more (own_below (own_lit1 wa.drew 5 wa.heap.size rfl (byw x.what)) B40.out) hgba)
    clear O4 B40
    refine wpAnyH_ready (rs := [6]) (by kernel_rfl) (by simp) ?_
    refine AllReadyH.cons (o := _) rfl (fun K hK => ?_) AllReadyH.nil
    (refine step_append_n (f := byw) _ (by rfl) (.tmp 7) (.tmp 10) 24 (by rfl) (fun _ => rfl) gb 5 i0 _ _ Try.underlying24 hif hz0 rfl hz1 hz2 (by decide) _ 1 1 [x.what] (by rfl) rfl OX.out w4.heap.size _ (Nr.four x.tx) 4 4 rfl (by rfl) SF.out (by simp) 5 rfl (by decide) hg4 ?_; intro A3 c3 w3 o3 g3 b3; have O3 := Lib.hid o3; have B3 := Lib.hid b3; have e0 : w3.cell? ⟨w.heap.size, 0, none⟩ = some (.int .u8 (x.what : Int)) := (B3.out.cell (p := ⟨w.heap.size, 0, none⟩) hlt).trans f0; have e1 : w3.cell? ⟨w.heap.size, 1, none⟩ = some (.int .u32 (x.tx : Int)) := (B3.out.cell (p := ⟨w.heap.size, 1, none⟩) hlt).trans f1; clear o3 g3 b3)
    refine hK.out _ _ ?_ (fun hHeld => ?_)
    · exact ⟨e0, e1⟩
    clear hK K
    try simp only [Act.put]
    try simp only [List.setIfInBounds_toArray]
    try simp only [List.set_cons_succ]
    try simp only [List.set_cons_zero]
    refine takeD (i := 7) (oi := _) (v := ?vv5) (d := some 3) rfl (by kernel_rfl) (by kernel_rfl) (by kernel_rfl) (by kernel_rfl) (fun _ _ _ h => h) (Or.inl ⟨by kernel_rfl, ?_⟩) (by assumption) ?_
    rotate_left 1
    · intro W_ hSw; (try dsimp only at hSw); go_simp; (first | done | with_reducible rfl)
    try simp only [Act.put, List.setIfInBounds_toArray, List.set_cons_zero, List.set_cons_succ]
    refine wpAnyH_done (by kernel_rfl) ?_ _
    have hg3 : gb ≤ w3.heap.size := Nat.le_trans hg4 B3.out.size
    have R4 := Lib.hid (R0.out.below (B4.out.trans B3.out) hlt)
    have BE4 := Lib.hid (BE0.out.trans ((B4.out.trans B3.out).mono (by omega)))
    clear OX SF f0 f1 e0 e1 d0 d1 R0 BE0
    have rdlt : w.heap.size < (w3).heap.size := R4.out.lt
    have rdlu : w.heap.size < (w3).heap.size + 1 := Nat.lt_succ_of_lt R4.out.lt
    have rd0 : (w3).cell? ⟨w.heap.size, 0, none⟩ = some (.int .u8 (x.what : Int)) := R4.out.cells 0
    have rdz0 : (w3).frozen? ⟨w.heap.size, 0, none⟩ = false := R4.out.frozen 0
    have rd1 : (w3).cell? ⟨w.heap.size, 1, none⟩ = some (.int .u32 (x.tx : Int)) := R4.out.cells 1
    have rdz1 : (w3).frozen? ⟨w.heap.size, 1, none⟩ = false := R4.out.frozen 1
    have rd2 : (w3).cell? ⟨w.heap.size, 2, none⟩ = some (.int .u8 (x.who : Int)) := R4.out.cells 2
    have rdz2 : (w3).frozen? ⟨w.heap.size, 2, none⟩ = false := R4.out.frozen 2
    have rd3 : (w3).cell? ⟨w.heap.size, 3, none⟩ = some (.bool x.yes) := R4.out.cells 3
    have rdz3 : (w3).frozen? ⟨w.heap.size, 3, none⟩ = false := R4.out.frozen 3
    have rd4 : (w3).cell? ⟨w.heap.size, 4, none⟩ = some (.slice A n c) := R4.out.cells 4
    have rdz4 : (w3).frozen? ⟨w.heap.size, 4, none⟩ = false := R4.out.frozen 4
    obtain ⟨y, hy⟩ : ∃ y, x.yes = y := ⟨_, rfl⟩
    have HY := Lib.hid hy
    rw [hy] at rd3
    clear hy
    cases y
    · go_wp2_with (first
        | (at_builtin; refine wpList_append_n (f := byw) _ rfl (.tmp 14) (.tmp 28) 24 rfl (fun _ => rfl) gb 5 i0 _ _ Try.underlying24 hif hz0 rfl hz1 hz2 (by decide) A3 c3 5 ([x.what] ++ Nr.four x.tx) rfl rfl (own_below O3.out (bel_alloc (Below.refl _ _) _)) (w3.heap.size + 1) (some ⟨w3.heap.size, 0, none⟩) [x.who, Nr.one x.yes, nh, nl] 4 4 rfl rfl (Sq.lits _ _ _ _ _ _ _ (by simp [HY.out, Nr.one]) rfl (by omega)) (by simp) 9 rfl (by decide) (by simp; omega) ?_; intro A5 c5 w5 o5 g5 b5; have O5 := Lib.hid o5; have B5 := Lib.hid (((Below.refl gb w3).alloc hg3 _).trans b5); have re4 : w5.cell? ⟨w.heap.size, 4, none⟩ = some (.slice A n c) := (B5.out.cell (p := ⟨w.heap.size, 4, none⟩) hlt).trans rd4; have BE5 := Lib.hid (BE4.out.trans (B5.out.mono (by omega))); have hg5 : gb ≤ w5.heap.size := Nat.le_trans hg3 B5.out.size; clear o5 g5 b5)
        | (at_builtin; refine wpList_append_n (f := byw) _ rfl (.tmp 30) (.tmp 32) 24 rfl (fun _ => rfl) gb 5 i0 _ _ Try.underlying24 hif hz0 rfl hz1 hz2 (by decide) A5 c5 9 ([x.what] ++ Nr.four x.tx ++ [x.who, Nr.one x.yes, nh, nl]) rfl rfl O5.out w5.heap.size A x.text c n HN.out rfl ((HSQ.out.below BE5.out).more BE5.out.size) hA (9 + n) rfl (by omega) hg5 ?_; intro A6 c6 w6 o6 g6 b6; have O6 := Lib.hid o6; have B6 := Lib.hid b6; have BE6 := Lib.hid (BE5.out.trans (B6.out.mono (by omega))); have hg6 : gb ≤ w6.heap.size := Nat.le_trans hg5 B6.out.size; clear o6 g6 b6))
      have hbody : [x.what] ++ Nr.four x.tx ++ [x.who, Nr.one x.yes, nh, nl] ++ x.text = Nr.body x := by
        rw [Nr.body, Nr.head, HN.out, HNH.out, HNL.out]
      have o6 := O6.out
      rw [hbody] at o6
      have OB := Lib.hid o6
      have hbl : (Nr.body x).length = 9 + n := by rw [Nr.body_length, HN.out]
      have HBL := Lib.hid hbl
      have kc := refBytes_any A6 c6 (9 + n) (Nr.body x) w6 (Sq.of_own o6) (Nr.body_u HF.out) (by omega) hbl
      obtain ⟨ck, hck⟩ : ∃ ck, Crc.bytes (Nr.body x) = ck := ⟨_, rfl⟩
      have HCK := Lib.hid hck
      have hckl : ck < 4294967296 := by rw [← hck]; exact Crc.bytes_lt (Nr.body_u HF.out)
      rw [hck] at kc
      clear hbody o6 hbl O5 hck O6
      go_wp2_with fail
      refine kc.mono ?_
      rintro e w7 ⟨rfl, rfl⟩
      clear kc
      go_wp2_with fail
      refine (rfour_any ck hckl _).mono ?_
      rintro e w7 ⟨rfl, o7, b7⟩
      have S7 := Lib.hid (Sq.of_own o7)
      have O7 := Lib.hid (own_below OB.out b7)
      have hg7 : gb ≤ w7.heap.size := Nat.le_trans hg6 b7.size
      have BE7 := Lib.hid (BE6.out.trans (b7.mono (by omega)))
      clear o7 b7
      go_wp2_with (at_builtin; refine wpList_append_n (f := byw) _ rfl (.tmp 34) (.tmp 37) 24 rfl (fun _ => rfl) gb 5 i0 _ _ Try.underlying24 hif hz0 rfl hz1 hz2 (by decide) A6 c6 (9 + n) (Nr.body x) rfl HBL.out O7.out w7.heap.size _ (Nr.four ck) 4 4 rfl rfl S7.out (by simp) (9 + n + 4) rfl (by omega) hg7 ?_; intro A8 c8 w8 o8 g8 b8; have O8 := Lib.hid o8; have BE8 := Lib.hid (BE7.out.trans (b8.mono (by omega))); clear o8 g8 b8)
      go_ret
      have hsz : x.bytes.length = 9 + n + 4 := by rw [Nr.bytes_length, Nr.size, HN.out]; omega
      have hbt : x.bytes = Nr.body x ++ Nr.four ck := by rw [Nr.bytes, HCK.out]
      rw [hsz, hbt]
      exact ⟨A8, c8, rfl, own_more O8.out (by omega), BE8.out⟩
    · go_wp2_with (first
        | (at_builtin; refine wpList_append_n (f := byw) _ rfl (.tmp 14) (.tmp 28) 24 rfl (fun _ => rfl) gb 5 i0 _ _ Try.underlying24 hif hz0 rfl hz1 hz2 (by decide) A3 c3 5 ([x.what] ++ Nr.four x.tx) rfl rfl (own_below O3.out (bel_alloc (Below.refl _ _) _)) (w3.heap.size + 1) (some ⟨w3.heap.size, 0, none⟩) [x.who, Nr.one x.yes, nh, nl] 4 4 rfl rfl (Sq.lits _ _ _ _ _ _ _ (by simp [HY.out, Nr.one]) rfl (by omega)) (by simp) 9 rfl (by decide) (by simp; omega) ?_; intro A5 c5 w5 o5 g5 b5; have O5 := Lib.hid o5; have B5 := Lib.hid (((Below.refl gb w3).alloc hg3 _).trans b5); have re4 : w5.cell? ⟨w.heap.size, 4, none⟩ = some (.slice A n c) := (B5.out.cell (p := ⟨w.heap.size, 4, none⟩) hlt).trans rd4; have BE5 := Lib.hid (BE4.out.trans (B5.out.mono (by omega))); have hg5 : gb ≤ w5.heap.size := Nat.le_trans hg3 B5.out.size; clear o5 g5 b5)
        | (at_builtin; refine wpList_append_n (f := byw) _ rfl (.tmp 30) (.tmp 32) 24 rfl (fun _ => rfl) gb 5 i0 _ _ Try.underlying24 hif hz0 rfl hz1 hz2 (by decide) A5 c5 9 ([x.what] ++ Nr.four x.tx ++ [x.who, Nr.one x.yes, nh, nl]) rfl rfl O5.out w5.heap.size A x.text c n HN.out rfl ((HSQ.out.below BE5.out).more BE5.out.size) hA (9 + n) rfl (by omega) hg5 ?_; intro A6 c6 w6 o6 g6 b6; have O6 := Lib.hid o6; have B6 := Lib.hid b6; have BE6 := Lib.hid (BE5.out.trans (B6.out.mono (by omega))); have hg6 : gb ≤ w6.heap.size := Nat.le_trans hg5 B6.out.size; clear o6 g6 b6))
      have hbody : [x.what] ++ Nr.four x.tx ++ [x.who, Nr.one x.yes, nh, nl] ++ x.text = Nr.body x := by
        rw [Nr.body, Nr.head, HN.out, HNH.out, HNL.out]
      have o6 := O6.out
      rw [hbody] at o6
      have OB := Lib.hid o6
      have hbl : (Nr.body x).length = 9 + n := by rw [Nr.body_length, HN.out]
      have HBL := Lib.hid hbl
      have kc := refBytes_any A6 c6 (9 + n) (Nr.body x) w6 (Sq.of_own o6) (Nr.body_u HF.out) (by omega) hbl
      obtain ⟨ck, hck⟩ : ∃ ck, Crc.bytes (Nr.body x) = ck := ⟨_, rfl⟩
      have HCK := Lib.hid hck
      have hckl : ck < 4294967296 := by rw [← hck]; exact Crc.bytes_lt (Nr.body_u HF.out)
      rw [hck] at kc
      clear hbody o6 hbl O5 hck O6
      go_wp2_with fail
      refine kc.mono ?_
      rintro e w7 ⟨rfl, rfl⟩
      clear kc
      go_wp2_with fail
      refine (rfour_any ck hckl _).mono ?_
      rintro e w7 ⟨rfl, o7, b7⟩
      have S7 := Lib.hid (Sq.of_own o7)
      have O7 := Lib.hid (own_below OB.out b7)
      have hg7 : gb ≤ w7.heap.size := Nat.le_trans hg6 b7.size
      have BE7 := Lib.hid (BE6.out.trans (b7.mono (by omega)))
      clear o7 b7
      go_wp2_with (at_builtin; refine wpList_append_n (f := byw) _ rfl (.tmp 34) (.tmp 37) 24 rfl (fun _ => rfl) gb 5 i0 _ _ Try.underlying24 hif hz0 rfl hz1 hz2 (by decide) A6 c6 (9 + n) (Nr.body x) rfl HBL.out O7.out w7.heap.size _ (Nr.four ck) 4 4 rfl rfl S7.out (by simp) (9 + n + 4) rfl (by omega) hg7 ?_; intro A8 c8 w8 o8 g8 b8; have O8 := Lib.hid o8; have BE8 := Lib.hid (BE7.out.trans (b8.mono (by omega))); clear o8 g8 b8)
      go_ret
      have hsz : x.bytes.length = 9 + n + 4 := by rw [Nr.bytes_length, Nr.size, HN.out]; omega
      have hbt : x.bytes = Nr.body x ++ Nr.four ck := by rw [Nr.bytes, HCK.out]
      rw [hsz, hbt]
      exact ⟨A8, c8, rfl, own_more O8.out (by omega), BE8.out⟩
  · go_simp
    (go_at_call 54; (with_reducible refine (rfour_any x.tx HF.out.tx _).mono ?_); rintro e wc ⟨rfl, o4, b4⟩; have O4 := Lib.hid o4; have B40 : Hid (Below gb wa wc) := Lib.hid ((Below.refl gb wa).drew.trans (b4.mono (by simp; omega))); have c0 : wc.cell? ⟨w.heap.size, 0, none⟩ = some (.int .u8 (x.what : Int)) := (B40.out.cell (p := ⟨w.heap.size, 0, none⟩) hlt).trans d0; have c1 : wc.cell? ⟨w.heap.size, 1, none⟩ = some (.int .u32 (x.tx : Int)) := (B40.out.cell (p := ⟨w.heap.size, 1, none⟩) hlt).trans d1; clear o4 b4)
    go_wp2_with fail
    refine hK.out _ _ ?_ (fun hHeld => ?_)
    · exact ⟨c0, c1⟩
    clear hK K
    try simp only [Act.put, List.setIfInBounds_toArray, List.set_cons_zero, List.set_cons_succ]
    refine wpAnyH_ready (rs := [2]) (by kernel_rfl) (by simp) ?_
    refine AllReadyH.cons (o := _) rfl (fun K hK => ?_) AllReadyH.nil
    go_simp
    refine hK.out _ _ ?_ (fun hHeld => ?_)
    · exact ⟨keep_alloc c0, keep_alloc c1⟩
    clear hK K
    try simp only [Act.put]
    try simp only [List.setIfInBounds_toArray]
    try simp only [List.set_cons_succ]
    try simp only [List.set_cons_zero]
    have hgc : gb ≤ wc.heap.size := Nat.le_trans hgba B40.out.size
    have bw := bel_alloc (Below.refl wc.heap.size wc) (.cells #[byw x.what] 5)
    have SF := Lib.hid (((Sq.of_own O4.out).below bw).more bw.size)
    have OX := Lib.hid (own_more (own_lit1 wc 5 wc.heap.size rfl (byw x.what)) hgc)
    have B4 := Lib.hid (B40.out.trans (bw.mono hgc))
    have f0 := keep_alloc (o := .cells #[byw x.what] 5) c0
    have f1 := keep_alloc (o := .cells #[byw x.what] 5) c1
    clear O4 B40 bw c0 c1
    obtain ⟨w4, hw4⟩ : ∃ w4, wc.alloc (.cells #[byw x.what] 5) = w4 := ⟨_, rfl⟩
    have hw4' : wc.alloc (.cells #[.int .u8 (x.what : Int)] 5) = w4 := hw4
    rw [hw4] at SF OX B4 f0 f1
    have hg4 : gb ≤ w4.heap.size := Nat.le_trans hgba B4.out.size
    first | rw [hw4'] | (simp only [hw4'])
    clear hw4 hw4'
    refine wpAnyH_ready (rs := [6]) (by kernel_rfl) (by simp) ?_
    refine AllReadyH.cons (o := _) rfl (fun K hK => ?_) AllReadyH.nil
    (refine step_append_n (f := byw) _ (by rfl) (.tmp 7) (.tmp 10) 24 (by rfl) (fun _ => rfl) gb 5 i0 _ _ Try.underlying24 hif hz0 rfl hz1 hz2 (by decide) _ 1 1 [x.what] (by rfl) rfl OX.out w4.heap.size _ (Nr.four x.tx) 4 4 rfl (by rfl) SF.out (by simp) 5 rfl (by decide) hg4 ?_; intro A3 c3 w3 o3 g3 b3; have O3 := Lib.hid o3; have B3 := Lib.hid b3; have e0 : w3.cell? ⟨w.heap.size, 0, none⟩ = some (.int .u8 (x.what : Int)) := (B3.out.cell (p := ⟨w.heap.size, 0, none⟩) hlt).trans f0; have e1 : w3.cell? ⟨w.heap.size, 1, none⟩ = some (.int .u32 (x.tx : Int)) := (B3.out.cell (p := ⟨w.heap.size, 1, none⟩) hlt).trans f1; clear o3 g3 b3)
    refine hK.out _ _ ?_ (fun hHeld => ?_)
    · exact ⟨e0, e1⟩
    clear hK K
    try simp only [Act.put]
    try simp only [List.setIfInBounds_toArray]
    try simp only [List.set_cons_succ]
    try simp only [List.set_cons_zero]
    refine takeD (i := 7) (oi := _) (v := ?vv6) (d := some 3) rfl (by kernel_rfl) (by kernel_rfl) (by kernel_rfl) (by kernel_rfl) (fun _ _ _ h => h) (Or.inl ⟨by kernel_rfl, ?_⟩) (by assumption) ?_
    rotate_left 1
    · intro W_ hSw; (try dsimp only at hSw); go_simp; (first | done | with_reducible rfl)
    try simp only [Act.put, List.setIfInBounds_toArray, List.set_cons_zero, List.set_cons_succ]
    refine wpAnyH_done (by kernel_rfl) ?_ _
    have hg3 : gb ≤ w3.heap.size := Nat.le_trans hg4 B3.out.size
    have R4 := Lib.hid (R0.out.below (B4.out.trans B3.out) hlt)
    have BE4 := Lib.hid (BE0.out.trans ((B4.out.trans B3.out).mono (by omega)))
    clear OX SF f0 f1 e0 e1 d0 d1 R0 BE0
    have rdlt : w.heap.size < (w3).heap.size := R4.out.lt
    have rdlu : w.heap.size < (w3).heap.size + 1 := Nat.lt_succ_of_lt R4.out.lt
    have rd0 : (w3).cell? ⟨w.heap.size, 0, none⟩ = some (.int .u8 (x.what : Int)) := R4.out.cells 0
    have rdz0 : (w3).frozen? ⟨w.heap.size, 0, none⟩ = false := R4.out.frozen 0
    have rd1 : (w3).cell? ⟨w.heap.size, 1, none⟩ = some (.int .u32 (x.tx : Int)) := R4.out.cells 1
    have rdz1 : (w3).frozen? ⟨w.heap.size, 1, none⟩ = false := R4.out.frozen 1
    have rd2 : (w3).cell? ⟨w.heap.size, 2, none⟩ = some (.int .u8 (x.who : Int)) := R4.out.cells 2
    have rdz2 : (w3).frozen? ⟨w.heap.size, 2, none⟩ = false := R4.out.frozen 2
    have rd3 : (w3).cell? ⟨w.heap.size, 3, none⟩ = some (.bool x.yes) := R4.out.cells 3
    have rdz3 : (w3).frozen? ⟨w.heap.size, 3, none⟩ = false := R4.out.frozen 3
    have rd4 : (w3).cell? ⟨w.heap.size, 4, none⟩ = some (.slice A n c) := R4.out.cells 4
    have rdz4 : (w3).frozen? ⟨w.heap.size, 4, none⟩ = false := R4.out.frozen 4
    obtain ⟨y, hy⟩ : ∃ y, x.yes = y := ⟨_, rfl⟩
    have HY := Lib.hid hy
    rw [hy] at rd3
    clear hy
    cases y
    · go_wp2_with (first
        | (at_builtin; refine wpList_append_n (f := byw) _ rfl (.tmp 14) (.tmp 28) 24 rfl (fun _ => rfl) gb 5 i0 _ _ Try.underlying24 hif hz0 rfl hz1 hz2 (by decide) A3 c3 5 ([x.what] ++ Nr.four x.tx) rfl rfl (own_below O3.out (bel_alloc (Below.refl _ _) _)) (w3.heap.size + 1) (some ⟨w3.heap.size, 0, none⟩) [x.who, Nr.one x.yes, nh, nl] 4 4 rfl rfl (Sq.lits _ _ _ _ _ _ _ (by simp [HY.out, Nr.one]) rfl (by omega)) (by simp) 9 rfl (by decide) (by simp; omega) ?_; intro A5 c5 w5 o5 g5 b5; have O5 := Lib.hid o5; have B5 := Lib.hid (((Below.refl gb w3).alloc hg3 _).trans b5); have re4 : w5.cell? ⟨w.heap.size, 4, none⟩ = some (.slice A n c) := (B5.out.cell (p := ⟨w.heap.size, 4, none⟩) hlt).trans rd4; have BE5 := Lib.hid (BE4.out.trans (B5.out.mono (by omega))); have hg5 : gb ≤ w5.heap.size := Nat.le_trans hg3 B5.out.size; clear o5 g5 b5)
        | (at_builtin; refine wpList_append_n (f := byw) _ rfl (.tmp 30) (.tmp 32) 24 rfl (fun _ => rfl) gb 5 i0 _ _ Try.underlying24 hif hz0 rfl hz1 hz2 (by decide) A5 c5 9 ([x.what] ++ Nr.four x.tx ++ [x.who, Nr.one x.yes, nh, nl]) rfl rfl O5.out w5.heap.size A x.text c n HN.out rfl ((HSQ.out.below BE5.out).more BE5.out.size) hA (9 + n) rfl (by omega) hg5 ?_; intro A6 c6 w6 o6 g6 b6; have O6 := Lib.hid o6; have B6 := Lib.hid b6; have BE6 := Lib.hid (BE5.out.trans (B6.out.mono (by omega))); have hg6 : gb ≤ w6.heap.size := Nat.le_trans hg5 B6.out.size; clear o6 g6 b6))
      have hbody : [x.what] ++ Nr.four x.tx ++ [x.who, Nr.one x.yes, nh, nl] ++ x.text = Nr.body x := by
        rw [Nr.body, Nr.head, HN.out, HNH.out, HNL.out]
      have o6 := O6.out
      rw [hbody] at o6
      have OB := Lib.hid o6
      have hbl : (Nr.body x).length = 9 + n := by rw [Nr.body_length, HN.out]
      have HBL := Lib.hid hbl
      have kc := refBytes_any A6 c6 (9 + n) (Nr.body x) w6 (Sq.of_own o6) (Nr.body_u HF.out) (by omega) hbl
      obtain ⟨ck, hck⟩ : ∃ ck, Crc.bytes (Nr.body x) = ck := ⟨_, rfl⟩
      have HCK := Lib.hid hck
      have hckl : ck < 4294967296 := by rw [← hck]; exact Crc.bytes_lt (Nr.body_u HF.out)
      rw [hck] at kc
      clear hbody o6 hbl O5 hck O6
      go_wp2_with fail
      refine kc.mono ?_
      rintro e w7 ⟨rfl, rfl⟩
      clear kc
      go_wp2_with fail
      refine (rfour_any ck hckl _).mono ?_
      rintro e w7 ⟨rfl, o7, b7⟩
      have S7 := Lib.hid (Sq.of_own o7)
      have O7 := Lib.hid (own_below OB.out b7)
      have hg7 : gb ≤ w7.heap.size := Nat.le_trans hg6 b7.size
      have BE7 := Lib.hid (BE6.out.trans (b7.mono (by omega)))
      clear o7 b7
      go_wp2_with (at_builtin; refine wpList_append_n (f := byw) _ rfl (.tmp 34) (.tmp 37) 24 rfl (fun _ => rfl) gb 5 i0 _ _ Try.underlying24 hif hz0 rfl hz1 hz2 (by decide) A6 c6 (9 + n) (Nr.body x) rfl HBL.out O7.out w7.heap.size _ (Nr.four ck) 4 4 rfl rfl S7.out (by simp) (9 + n + 4) rfl (by omega) hg7 ?_; intro A8 c8 w8 o8 g8 b8; have O8 := Lib.hid o8; have BE8 := Lib.hid (BE7.out.trans (b8.mono (by omega))); clear o8 g8 b8)
      go_ret
      have hsz : x.bytes.length = 9 + n + 4 := by rw [Nr.bytes_length, Nr.size, HN.out]; omega
      have hbt : x.bytes = Nr.body x ++ Nr.four ck := by rw [Nr.bytes, HCK.out]
      rw [hsz, hbt]
      exact ⟨A8, c8, rfl, own_more O8.out (by omega), BE8.out⟩
    · go_wp2_with (first
        | (at_builtin; refine wpList_append_n (f := byw) _ rfl (.tmp 14) (.tmp 28) 24 rfl (fun _ => rfl) gb 5 i0 _ _ Try.underlying24 hif hz0 rfl hz1 hz2 (by decide) A3 c3 5 ([x.what] ++ Nr.four x.tx) rfl rfl (own_below O3.out (bel_alloc (Below.refl _ _) _)) (w3.heap.size + 1) (some ⟨w3.heap.size, 0, none⟩) [x.who, Nr.one x.yes, nh, nl] 4 4 rfl rfl (Sq.lits _ _ _ _ _ _ _ (by simp [HY.out, Nr.one]) rfl (by omega)) (by simp) 9 rfl (by decide) (by simp; omega) ?_; intro A5 c5 w5 o5 g5 b5; have O5 := Lib.hid o5; have B5 := Lib.hid (((Below.refl gb w3).alloc hg3 _).trans b5); have re4 : w5.cell? ⟨w.heap.size, 4, none⟩ = some (.slice A n c) := (B5.out.cell (p := ⟨w.heap.size, 4, none⟩) hlt).trans rd4; have BE5 := Lib.hid (BE4.out.trans (B5.out.mono (by omega))); have hg5 : gb ≤ w5.heap.size := Nat.le_trans hg3 B5.out.size; clear o5 g5 b5)
        | (at_builtin; refine wpList_append_n (f := byw) _ rfl (.tmp 30) (.tmp 32) 24 rfl (fun _ => rfl) gb 5 i0 _ _ Try.underlying24 hif hz0 rfl hz1 hz2 (by decide) A5 c5 9 ([x.what] ++ Nr.four x.tx ++ [x.who, Nr.one x.yes, nh, nl]) rfl rfl O5.out w5.heap.size A x.text c n HN.out rfl ((HSQ.out.below BE5.out).more BE5.out.size) hA (9 + n) rfl (by omega) hg5 ?_; intro A6 c6 w6 o6 g6 b6; have O6 := Lib.hid o6; have B6 := Lib.hid b6; have BE6 := Lib.hid (BE5.out.trans (B6.out.mono (by omega))); have hg6 : gb ≤ w6.heap.size := Nat.le_trans hg5 B6.out.size; clear o6 g6 b6))
      have hbody : [x.what] ++ Nr.four x.tx ++ [x.who, Nr.one x.yes, nh, nl] ++ x.text = Nr.body x := by
        rw [Nr.body, Nr.head, HN.out, HNH.out, HNL.out]
      have o6 := O6.out
      rw [hbody] at o6
      have OB := Lib.hid o6
      have hbl : (Nr.body x).length = 9 + n := by rw [Nr.body_length, HN.out]
      have HBL := Lib.hid hbl
      have kc := refBytes_any A6 c6 (9 + n) (Nr.body x) w6 (Sq.of_own o6) (Nr.body_u HF.out) (by omega) hbl
      obtain ⟨ck, hck⟩ : ∃ ck, Crc.bytes (Nr.body x) = ck := ⟨_, rfl⟩
      have HCK := Lib.hid hck
      have hckl : ck < 4294967296 := by rw [← hck]; exact Crc.bytes_lt (Nr.body_u HF.out)
      rw [hck] at kc
      clear hbody o6 hbl O5 hck O6
      go_wp2_with fail
      refine kc.mono ?_
      rintro e w7 ⟨rfl, rfl⟩
      clear kc
      go_wp2_with fail
      refine (rfour_any ck hckl _).mono ?_
      rintro e w7 ⟨rfl, o7, b7⟩
      have S7 := Lib.hid (Sq.of_own o7)
      have O7 := Lib.hid (own_below OB.out b7)
      have hg7 : gb ≤ w7.heap.size := Nat.le_trans hg6 b7.size
      have BE7 := Lib.hid (BE6.out.trans (b7.mono (by omega)))
      clear o7 b7
      go_wp2_with (at_builtin; refine wpList_append_n (f := byw) _ rfl (.tmp 34) (.tmp 37) 24 rfl (fun _ => rfl) gb 5 i0 _ _ Try.underlying24 hif hz0 rfl hz1 hz2 (by decide) A6 c6 (9 + n) (Nr.body x) rfl HBL.out O7.out w7.heap.size _ (Nr.four ck) 4 4 rfl rfl S7.out (by simp) (9 + n + 4) rfl (by omega) hg7 ?_; intro A8 c8 w8 o8 g8 b8; have O8 := Lib.hid o8; have BE8 := Lib.hid (BE7.out.trans (b8.mono (by omega))); clear o8 g8 b8)
      go_ret
      have hsz : x.bytes.length = 9 + n + 4 := by rw [Nr.bytes_length, Nr.size, HN.out]; omega
      have hbt : x.bytes = Nr.body x ++ Nr.four ck := by rw [Nr.bytes, HCK.out]
      rw [hsz, hbt]
      exact ⟨A8, c8, rfl, own_more O8.out (by omega), BE8.out⟩
end Go.Proofs.Ytbokggilfepdhaa
namespace Go.Proofs.Ytbokggilfepdhaa
open Go.RowKit
set_option linter.unusedVariables false
set_option linter.unusedSimpArgs false
attribute [local go_sem] Later.cell Later.frozen setCell_twice
theorem Nr.first_few {d : List Nat} (h : d.length < 13 ∨ d.length < 13 + Nr.told d) : Nr.first d = none := by
  unfold Nr.first
  rw [if_pos (by rcases h with h | h; exact .inl h; exact .inr (.inr h))]
def fold256 (l : List Nat) : Nat := l.foldl (fun a x => 256 * a + x) 0
theorem fold256_snoc (l : List Nat) (x : Nat) : fold256 (l ++ [x]) = 256 * fold256 l + x := by simp [fold256]
theorem fold256_lt (l : List Nat) (h : ∀ x ∈ l, x < 256) : fold256 l < 256 ^ l.length := by
  rcases List.eq_nil_or_concat l with rfl | ⟨t, x, rfl⟩
  · simp [fold256]
  · have h1 := fold256_lt t (fun y hy => h y (by simp [hy]))
    have h2 := h x (by simp)
    simp only [List.concat_eq_append] at *
    rw [fold256_snoc, List.length_append, List.length_singleton, Nat.pow_succ]
    omega
  termination_by l.length
  decreasing_by subst l; simp
set_option maxRecDepth 100000 in
set_option maxHeartbeats 1000000 in
theorem rread_any (A : Option Addr) (c n : Nat) (b : List Nat) (hn : b.length = n) (w : World) (hsq : Sq byw w w.heap.size A b) (hu : ∀ y ∈ b, y < 256) (hA : A = none → c = 0) (hnc : n ≤ c) (hc : c ≤ 9223372036854775807) (hn1 : n ≤ 1000000) :
    Calls Try.prog 28 #[.slice A n c] w (ReadP b w) := by
  obtain ⟨i1, hif1, hy0, hy1, hy2⟩ := info_parts info_record
  obtain ⟨i2, hif2, hx0, hx1, hx2⟩ := info_parts info_b8
  have HN := Lib.hid hn
  have HSQ := Lib.hid hsq
  have HU := Lib.hid hu
  clear hsq hu hn
  go_enter Try.func28, Try.ntmps28
  go_wp2
  go_loopw [4, 5] (fun v4 v5 wr => ∃ (rs : List Rc) (m : Nat) (A' : Option Addr) (c' at_ : Nat), v4 = .slice A' m c' ∧ v5 = .int .i64 (at_ : Int) ∧ at_ ≤ n ∧ Olist recK wr w.heap.size 34 A' m c' rs ∧ Hid (Nr.read b = (rs.map Rc.p ++ (Nr.read (b.drop at_)).1, at_ + (Nr.read (b.drop at_)).2)) ∧ (∀ r ∈ rs, r.Nl ∧ r.In w.heap.size) ∧ m * 13 ≤ at_ ∧ Below w.heap.size w wr) (fun _ v5 _ => n - (intOf v5).toNat)
  case atStart => exact ⟨[], 0, none, 0, 0, rfl, rfl, by omega, Olist.nil _ _ _ _, Lib.hid (by simp), by simp, by omega, Below.refl _ _⟩
  case round =>
    rename World => wr
    obtain ⟨rs, m, A', c', at_, rfl, rfl, hat, hol, HRD, hnl, hml, hbe⟩ := hrel
    have OL := Lib.hid hol
    have HNL := Lib.hid hnl
    have BE := Lib.hid hbe
    clear hol hnl hbe
    have hs0 : (0 : Int) ≤ (at_ : Int) := by omega
    have hs1 : (at_ : Int) ≤ (n : Int) := by omega
    obtain ⟨dd, hdd⟩ : ∃ dd, b.drop at_ = dd := ⟨_, rfl⟩
    obtain ⟨D, hD⟩ : ∃ D, n - at_ = D := ⟨_, rfl⟩
    have hDI : (n : Int) - (at_ : Int) = (D : Int) := by omega
    have HDL : Hid (dd.length = D) := Lib.hid (by rw [← hdd, List.length_drop, HN.out, hD])
    rw [hdd] at HRD
    have HDD := Lib.hid hdd
    clear hdd
    by_cases h13 : D < 13
    · have g1 : decide ((13 : Int) ≤ (D : Int)) = false := decide_eq_false (by omega)
      have HF : Hid (Nr.first dd = none) := Lib.hid (Nr.first_few (.inl (by rw [HDL.out]; exact h13)))
      clear hD
      go_wp2
      go_ret2
      refine ⟨A', c', m, rs, ?_, OL.out, ?_, HNL.out, BE.out⟩
      · rw [HRD.out, Nr.read_none HF.out]; rfl
      · rw [HRD.out, Nr.read_none HF.out]; simp
    · have g1 : decide ((13 : Int) ≤ (D : Int)) = true := decide_eq_true (by omega)
      obtain ⟨g, o, rfl, hg, hcell⟩ := HSQ.out (by rw [HN.out]; omega)
      have hca : (c = at_) = False := by simp; omega
      obtain ⟨E, hE⟩ : ∃ E, c - at_ = E := ⟨_, rfl⟩
      obtain ⟨O, hO⟩ : ∃ O, o + at_ = O := ⟨_, rfl⟩
      have HUD : Hid (∀ y ∈ dd, y < 256) := Lib.hid (fun y hy => HU.out y (by rw [← HDD.out] at hy; exact List.mem_of_mem_drop hy))
      have HCD : Hid (∀ (j x : Nat), dd[j]? = some x → w.cell? ⟨g, O + j, none⟩ = some (.int .u8 (x : Int))) := Lib.hid (fun j x hx => by
        rw [← HDD.out, List.getElem?_drop] at hx
        have := hcell _ x hx
        rw [← Nat.add_assoc, hO] at this
        exact this)
      have hgr : g < wr.heap.size := Nat.lt_of_lt_of_le hg BE.out.size
      obtain ⟨b0, b1, b2, b3, b4, b5, b6, b7, b8, r, hdd⟩ := Nr.nine (b := dd) (by rw [HDL.out]; omega)
      have H8 : Hid (dd = b0 :: b1 :: b2 :: b3 :: b4 :: b5 :: b6 :: b7 :: b8 :: r) := Lib.hid hdd
      have hb7 : b7 < 256 := HUD.out b7 (by rw [hdd]; simp)
      have hb8 : b8 < 256 := HUD.out b8 (by rw [hdd]; simp)
      have cell : ∀ (j x : Nat), dd[j]? = some x → wr.cell? ⟨g, O + j, none⟩ = some (.int .u8 (x : Int)) := fun j x hx => (BE.out.cell (p := ⟨g, O + j, none⟩) hg).trans (HCD.out j x hx)
      have d0 : wr.cell? ⟨g, O, none⟩ = some (.int .u8 (b0 : Int)) := cell 0 b0 (by rw [hdd]; rfl)
      have d5 := cell 5 b5 (by rw [hdd]; rfl)
      have d6 := cell 6 b6 (by rw [hdd]; rfl)
      have d7 := cell 7 b7 (by rw [hdd]; rfl)
      have d8 := cell 8 b8 (by rw [hdd]; rfl)
      obtain ⟨T, hT⟩ : ∃ T, b7 * 256 + b8 = T := ⟨_, rfl⟩
      have hTI : 256 * (b7 : Int) + (b8 : Int) = (T : Int) := by omega
      have HTT : Hid (Nr.told dd = T) := Lib.hid (by rw [hdd, ← hT]; rfl)
      have hDn : (13 : Int) ≤ (D : Int) := by omega
      have hD0 : 0 < D := by omega
      have hD5 : 5 < D := by omega
      have hD6 : 6 < D := by omega
      have hD7 : 7 < D := by omega
      have hD8 : 8 < D := by omega
      have hI5 : (5 : Int) < (D : Int) := by omega
      have hI6 : (6 : Int) < (D : Int) := by omega
      have hI7 : (7 : Int) < (D : Int) := by omega
      have hI8 : (8 : Int) < (D : Int) := by omega
      clear hcell cell hdd hT
      go_wp2_with fail
      refine wp_region_held_drew (S := (fun w' => w'.cell? ⟨g, O + 7, none⟩ = some (.int .u8 (b7 : Int)) ∧ w'.cell? ⟨g, O + 8, none⟩ = some (.int .u8 (b8 : Int)))) (by kernel_rfl) ?_ (fun hHeld => ?_)
      · exact ⟨d7, d8⟩
      refine takeD (i := 0) (oi := _) (v := ?vv7) (d := some 21) rfl (by kernel_rfl) (by kernel_rfl) (by kernel_rfl) (by kernel_rfl) (fun _ _ _ h => h) (Or.inl ⟨by kernel_rfl, ?_⟩) (by assumption) ?_
      rotate_left 1
      · intro W_ hSw; (try dsimp only at hSw); go_simp; (first | done | with_reducible rfl)
      try simp only [Act.put, List.setIfInBounds_toArray, List.set_cons_zero, List.set_cons_succ]
      refine takeD (i := 1) (oi := _) (v := ?vv8) (d := some 22) rfl (by kernel_rfl) (by kernel_rfl) (by kernel_rfl) (by kernel_rfl) (fun _ _ _ h => h) (Or.inl ⟨by kernel_rfl, ?_⟩) (by assumption) ?_
      rotate_left 1
      · intro W_ hSw; (try dsimp only at hSw); go_simp; (first | done | with_reducible rfl)
      try simp only [Act.put, List.setIfInBounds_toArray, List.set_cons_zero, List.set_cons_succ]
      refine takeD (i := 2) (oi := _) (v := ?vv9) (d := some 23) rfl (by kernel_rfl) (by kernel_rfl) (by kernel_rfl) (by kernel_rfl) (fun _ _ _ h => h) (Or.inl ⟨by kernel_rfl, ?_⟩) (by assumption) ?_
      rotate_left 1
      · intro W_ hSw; (try dsimp only at hSw); go_simp; (first | done | with_reducible rfl)
      try simp only [Act.put, List.setIfInBounds_toArray, List.set_cons_zero, List.set_cons_succ]
      refine takeD (i := 3) (oi := _) (v := ?vv10) (d := some 24) rfl (by kernel_rfl) (by kernel_rfl) (by kernel_rfl) (by kernel_rfl) (fun _ _ _ h => h) (Or.inl ⟨by kernel_rfl, ?_⟩) (by assumption) ?_
      rotate_left 1
      · intro W_ hSw; (try dsimp only at hSw); go_simp; (first | done | with_reducible rfl)
      try simp only [Act.put, List.setIfInBounds_toArray, List.set_cons_zero, List.set_cons_succ]
      refine takeD (i := 4) (oi := _) (v := ?vv11) (d := some 25) rfl (by kernel_rfl) (by kernel_rfl) (by kernel_rfl) (by kernel_rfl) (fun _ _ _ h => h) (Or.inl ⟨by kernel_rfl, ?_⟩) (by assumption) ?_
      rotate_left 1
      · intro W_ hSw; (try dsimp only at hSw); go_simp; (first | done | with_reducible rfl)
      try simp only [Act.put, List.setIfInBounds_toArray, List.set_cons_zero, List.set_cons_succ]
      refine takeD (i := 5) (oi := _) (v := ?vv12) (d := some 26) rfl (by kernel_rfl) (by kernel_rfl) (by kernel_rfl) (by kernel_rfl) (fun _ _ _ h => h) (Or.inl ⟨by kernel_rfl, ?_⟩) (by assumption) ?_
      rotate_left 1
      · intro W_ hSw; (try dsimp only at hSw); go_simp; (first | done | with_reducible rfl)
      try simp only [Act.put, List.setIfInBounds_toArray, List.set_cons_zero, List.set_cons_succ]
      refine takeD (i := 6) (oi := _) (v := ?vv13) (d := some 27) rfl (by kernel_rfl) (by kernel_rfl) (by kernel_rfl) (by kernel_rfl) (fun _ _ _ h => h) (Or.inl ⟨by kernel_rfl, ?_⟩) (by assumption) ?_
      rotate_left 1
      · intro W_ hSw; (try dsimp only at hSw); go_simp; (first | done | with_reducible rfl)
      try simp only [Act.put, List.setIfInBounds_toArray, List.set_cons_zero, List.set_cons_succ]
      refine takeD (i := 7) (oi := _) (v := ?vv14) (d := some 28) rfl (by kernel_rfl) (by kernel_rfl) (by kernel_rfl) (by kernel_rfl) (fun _ _ _ h => h) (Or.inl ⟨by kernel_rfl, ?_⟩) (by assumption) ?_
      rotate_left 1
      · intro W_ hSw; (try dsimp only at hSw); go_simp; (first | done | with_reducible rfl)
      try simp only [Act.put, List.setIfInBounds_toArray, List.set_cons_zero, List.set_cons_succ]
      refine takeD (i := 8) (oi := _) (v := ?vv15) (d := some 29) rfl (by kernel_rfl) (by kernel_rfl) (by kernel_rfl) (by kernel_rfl) (fun _ _ _ h => h) (Or.inl ⟨by kernel_rfl, ?_⟩) (by assumption) ?_
      rotate_left 1
      · intro W_ hSw; (try dsimp only at hSw); go_simp; (first | done | with_reducible rfl)
      try simp only [Act.put, List.setIfInBounds_toArray, List.set_cons_zero, List.set_cons_succ]
      refine takeD (i := 9) (oi := _) (v := ?vv16) (d := some 30) rfl (by kernel_rfl) (by kernel_rfl) (by kernel_rfl) (by kernel_rfl) (fun _ _ _ h => h) (Or.inl ⟨by kernel_rfl, ?_⟩) (by assumption) ?_
      rotate_left 1
      · intro W_ hSw; (try dsimp only at hSw); go_simp; (first | done | with_reducible rfl)
      try simp only [Act.put, List.setIfInBounds_toArray, List.set_cons_zero, List.set_cons_succ]
      refine takeD (i := 10) (oi := _) (v := ?vv17) (d := some 7) rfl (by kernel_rfl) (by kernel_rfl) (by kernel_rfl) (by kernel_rfl) (fun _ _ _ h => h) (Or.inl ⟨by kernel_rfl, ?_⟩) (by assumption) ?_
      rotate_left 1
      · intro W_ hSw; (try dsimp only at hSw); go_simp; (first | done | with_reducible rfl)
      try simp only [Act.put, List.setIfInBounds_toArray, List.set_cons_zero, List.set_cons_succ]
      refine wpAnyH_done (by kernel_rfl) ?_ _
      by_cases hlt : D < 13 + T
      · have g2 : decide ((D : Int) < 13 + (T : Int)) = true := decide_eq_true (by omega)
        have bd := (Below.refl wr.heap.size wr).drew
        replace OL := Lib.hid (OL.out.to bd)
        replace BE := Lib.hid (BE.out.trans (bd.mono BE.out.size))
        clear bd
        have HF : Hid (Nr.first dd = none) := Lib.hid (Nr.first_few (.inr (by rw [HDL.out, HTT.out]; exact hlt)))
        go_wp2
        go_ret2
        refine ⟨A', c', m, rs, ?_, OL.out, ?_, HNL.out, BE.out⟩
        · rw [HRD.out, Nr.read_none HF.out]; rfl
        · rw [HRD.out, Nr.read_none HF.out]; simp
      · have g2 : decide ((D : Int) < 13 + (T : Int)) = false := decide_eq_false (by omega)
        obtain ⟨yes, hyes⟩ : ∃ yes, ((b6 : Int) == 1) = yes := ⟨_, rfl⟩
        go_wp2_with fail
        refine wp_region_held_drew (S := (fun w' => w'.cell? ⟨g, O, none⟩ = some (.int .u8 (b0 : Int)) ∧ w'.cell? ⟨g, O + 5, none⟩ = some (.int .u8 (b5 : Int)) ∧ w'.cell? ⟨g, O + 6, none⟩ = some (.int .u8 (b6 : Int)))) (by kernel_rfl) ?_ (fun hHeld => ?_)
        · exact ⟨d0, d5, d6⟩
        refine takeD (i := 0) (oi := _) (v := ?vv18) (d := some 38) rfl (by kernel_rfl) (by kernel_rfl) (by kernel_rfl) (by kernel_rfl) (fun _ _ _ h => h) (Or.inl ⟨by kernel_rfl, ?_⟩) (by assumption) ?_
        rotate_left 1
        · intro W_ hSw; (try dsimp only at hSw); go_simp; (first | done | with_reducible rfl)
        try simp only [Act.put, List.setIfInBounds_toArray, List.set_cons_zero, List.set_cons_succ]
        refine takeD (i := 1) (oi := _) (v := ?vv19) (d := some 39) rfl (by kernel_rfl) (by kernel_rfl) (by kernel_rfl) (by kernel_rfl) (fun _ _ _ h => h) (Or.inl ⟨by kernel_rfl, ?_⟩) (by assumption) ?_
        rotate_left 1
        · intro W_ hSw; (try dsimp only at hSw); go_simp; (first | done | with_reducible rfl)
        try simp only [Act.put, List.setIfInBounds_toArray, List.set_cons_zero, List.set_cons_succ]
        refine takeD (i := 2) (oi := _) (v := ?vv20) (d := some 40) rfl (by kernel_rfl) (by kernel_rfl) (by kernel_rfl) (by kernel_rfl) (fun _ _ _ h => h) (Or.inl ⟨by kernel_rfl, ?_⟩) (by assumption) ?_
        rotate_left 1
        · intro W_ hSw; (try dsimp only at hSw); go_simp; (first | done | with_reducible rfl)
        try simp only [Act.put, List.setIfInBounds_toArray, List.set_cons_zero, List.set_cons_succ]
        refine takeD (i := 3) (oi := _) (v := ?vv21) (d := some 41) rfl (by kernel_rfl) (by kernel_rfl) (by kernel_rfl) (by kernel_rfl) (fun _ _ _ h => h) (Or.inl ⟨by kernel_rfl, ?_⟩) (by assumption) ?_
        rotate_left 1
        · intro W_ hSw; (try dsimp only at hSw); go_simp; (first | done | with_reducible rfl)
        try simp only [Act.put, List.setIfInBounds_toArray, List.set_cons_zero, List.set_cons_succ]
        refine takeD (i := 4) (oi := _) (v := ?vv22) (d := some 42) rfl (by kernel_rfl) (by kernel_rfl) (by kernel_rfl) (by kernel_rfl) (fun _ _ _ h => h) (Or.inl ⟨by kernel_rfl, ?_⟩) (by assumption) ?_
        rotate_left 1
        · intro W_ hSw; (try dsimp only at hSw); go_simp; (first | done | with_reducible rfl)
        try simp only [Act.put, List.setIfInBounds_toArray, List.set_cons_zero, List.set_cons_succ]
        refine takeD (i := 5) (oi := _) (v := ?vv23) (d := some 43) rfl (by kernel_rfl) (by kernel_rfl) (by kernel_rfl) (by kernel_rfl) (fun _ _ _ h => h) (Or.inl ⟨by kernel_rfl, ?_⟩) (by assumption) ?_
        rotate_left 1
        · intro W_ hSw; (try dsimp only at hSw); go_simp; (first | done | with_reducible rfl)
        try simp only [Act.put, List.setIfInBounds_toArray, List.set_cons_zero, List.set_cons_succ]
        refine takeD (i := 6) (oi := _) (v := ?vv24) (d := some 44) rfl (by kernel_rfl) (by kernel_rfl) (by kernel_rfl) (by kernel_rfl) (fun _ _ _ h => h) (Or.inl ⟨by kernel_rfl, ?_⟩) (by assumption) ?_
        rotate_left 1
        · intro W_ hSw; (try dsimp only at hSw); go_simp; (first | done | with_reducible rfl)
        try simp only [Act.put, List.setIfInBounds_toArray, List.set_cons_zero, List.set_cons_succ]
        refine takeD (i := 7) (oi := _) (v := ?vv25) (d := some 45) rfl (by kernel_rfl) (by kernel_rfl) (by kernel_rfl) (by kernel_rfl) (fun _ _ _ h => h) (Or.inl ⟨by kernel_rfl, ?_⟩) (by assumption) ?_
        rotate_left 1
        · intro W_ hSw; (try dsimp only at hSw); go_simp; (first | done | with_reducible rfl)
        try simp only [Act.put, List.setIfInBounds_toArray, List.set_cons_zero, List.set_cons_succ]
        refine takeD (i := 8) (oi := _) (v := ?vv26) (d := some 46) rfl (by kernel_rfl) (by kernel_rfl) (by kernel_rfl) (by kernel_rfl) (fun _ _ _ h => h) (Or.inl ⟨by kernel_rfl, ?_⟩) (by assumption) ?_
        rotate_left 1
        · intro W_ hSw; (try dsimp only at hSw); go_simp; (first | done | with_reducible rfl)
        try simp only [Act.put, List.setIfInBounds_toArray, List.set_cons_zero, List.set_cons_succ]
        refine takeD (i := 9) (oi := _) (v := ?vv27) (d := some 47) rfl (by kernel_rfl) (by kernel_rfl) (by kernel_rfl) (by kernel_rfl) (fun _ _ _ h => h) (Or.inl ⟨by kernel_rfl, ?_⟩) (by assumption) ?_
        rotate_left 1
        · intro W_ hSw; (try dsimp only at hSw); go_simp; (first | done | with_reducible rfl)
        try simp only [Act.put, List.setIfInBounds_toArray, List.set_cons_zero, List.set_cons_succ]
        refine takeD (i := 10) (oi := _) (v := ?vv28) (d := some 48) rfl (by kernel_rfl) (by kernel_rfl) (by kernel_rfl) (by kernel_rfl) (fun _ _ _ h => h) (Or.inl ⟨by kernel_rfl, ?_⟩) (by assumption) ?_
        rotate_left 1
        · intro W_ hSw; (try dsimp only at hSw); go_simp; (first | done | with_reducible rfl)
        try simp only [Act.put, List.setIfInBounds_toArray, List.set_cons_zero, List.set_cons_succ]
        refine wpAnyH_ready (rs := [11]) (by kernel_rfl) (by simp) ?_
        refine AllReadyH.cons (o := _) rfl (fun K hK => ?_) AllReadyH.nil
        go_simp
        refine hK.out _ _ ?_ (fun hHeld => ?_)
        · exact ⟨keep_alloc d0, keep_alloc d5, keep_alloc d6⟩
        clear hK K
        try simp only [Act.put]
        try simp only [List.setIfInBounds_toArray]
        try simp only [List.set_cons_succ]
        try simp only [List.set_cons_zero]
        refine wpAnyH_ready (rs := [12]) (by kernel_rfl) (by simp) ?_
        refine AllReadyH.cons (o := _) rfl (fun K hK => ?_) AllReadyH.nil
        go_simp
        refine hK.out _ _ ?_ (fun hHeld => ?_)
        · exact ⟨keep_alloc d0, keep_alloc d5, keep_alloc d6⟩
        clear hK K
        try simp only [Act.put]
        try simp only [List.setIfInBounds_toArray]
        try simp only [List.set_cons_succ]
        try simp only [List.set_cons_zero]
        refine wpAnyH_done (by kernel_rfl) ?_ _
        obtain ⟨G, hG⟩ : ∃ G, wr.heap.size = G := ⟨_, rfl⟩
        obtain ⟨w1, hw1⟩ : ∃ w1, (wr.alloc (.cells #[.int .u8 (b0 : Int), .int .u32 0, .int .u8 (b5 : Int), .bool yes, .slice none 0 0] 34)).drew.drew = w1 := ⟨_, rfl⟩
        have R1 : Hid (RowAt w1 G 34 (rcV b0 0 b5 yes none 0 0)) := Lib.hid (by rw [← hw1, ← hG]; exact heap_alloc_new wr _)
        have b1' : Below wr.heap.size wr w1 := by rw [← hw1]; exact (bel_alloc (Below.refl wr.heap.size wr) _).drew.drew
        have OL1 := Lib.hid (OL.out.to b1')
        have BE1 : Hid (Below w.heap.size w w1) := Lib.hid (BE.out.trans (b1'.mono BE.out.size))
        have hgG : g < G := by omega
        have HGw : w.heap.size ≤ G := by have := BE.out.size; rw [← hG]; exact this
        rw [hG]
        rw [hw1]
        have HOG : Hid (∀ q, A' = some q → q.block ≠ G) := Lib.hid (fun q hq => by have := (own_at_s OL.out.own q hq).2.1; rw [← hG]; exact Nat.ne_of_lt this)
        have APG := Lib.hid (OL.out.apart_new (b := G) (Nat.le_of_eq hG))
        clear hw1 b1' d0 d5 d6 d7 d8 hG OL BE
        go_wp2
        go_loopw [9] (fun v wq => ∃ i : Nat, 1 ≤ i ∧ i ≤ 5 ∧ v = .int .i64 (i : Int) ∧ Hid (RowAt wq G 34 (rcV b0 (fold256 ((dd.drop 1).take (i - 1))) b5 yes none 0 0)) ∧ Hid (Only G w1 wq)) (fun v _ => 5 - (intOf v).toNat)
        case atStart => exact ⟨1, by omega, by omega, rfl, R1, Lib.hid (Only.refl _ _)⟩
        case round =>
          rename World => wq
          obtain ⟨i, hi1, hi5, rfl, RQ, KQ⟩ := hrel
          by_cases hi : i < 5
          · have hiI : (i : Int) < 5 := by omega
            obtain ⟨z, hz⟩ : ∃ z, dd[i]? = some z := ⟨_, List.getElem?_eq_getElem (by rw [HDL.out]; omega)⟩
            have hzl : z < 256 := HUD.out z (List.mem_of_getElem? hz)
            obtain ⟨tx, htx⟩ : ∃ tx, fold256 ((dd.drop 1).take (i - 1)) = tx := ⟨_, rfl⟩
            have HF2 : Hid (fold256 ((dd.drop 1).take (i + 1 - 1)) = 256 * tx + z) := Lib.hid (by
              rw [show i + 1 - 1 = (i - 1) + 1 by omega, List.take_add_one, List.getElem?_drop, show 1 + (i - 1) = i by omega, hz, ← htx]
              simp [fold256])
            have htl : tx ≤ 16777215 := by
              have := fold256_lt ((dd.drop 1).take (i - 1)) (fun y hy => HUD.out y (List.mem_of_mem_drop (List.mem_of_mem_take hy)))
              rw [htx] at this
              have h2 : (256 : Nat) ^ ((dd.drop 1).take (i - 1)).length ≤ 256 ^ 3 := Nat.pow_le_pow_right (by decide) (by rw [List.length_take]; omega)
              omega
            obtain ⟨t2, ht2⟩ : ∃ t2, 256 * tx + z = t2 := ⟨_, rfl⟩
            have ht2I : 256 * (tx : Int) + (z : Int) = (t2 : Int) := by omega
            have ht2l : t2 < 4294967296 := by omega
            have cz : wq.cell? ⟨g, O + i, none⟩ = some (.int .u8 (z : Int)) := (KQ.out.cell (show g ≠ G by omega)).trans ((BE1.out.cell (p := ⟨g, O + i, none⟩) hg).trans (HCD.out i z hz))
            rw [htx] at RQ
            have ct : wq.cell? ⟨G, 1, none⟩ = some (.int .u32 (tx : Int)) := RQ.out.cells 1
            have cf : wq.frozen? ⟨G, 1, none⟩ = false := RQ.out.frozen 1
            have HWR : Hid (IntKind.u32.wrap (IntKind.u32.wrap (256 * (tx : Int)) + IntKind.u32.wrap (z : Int)) = (t2 : Int)) := Lib.hid (by
              have hw : ∀ v : Int, 0 ≤ v → v < 4294967296 → IntKind.u32.wrap v = v := fun v h1 h2 => by
                first | (rw [IntKind.wrap_u32]; omega) | (simp [IntKind.wrap]; omega)
              rw [hw (256 * (tx : Int)) (by omega) (by omega), hw (z : Int) (by omega) (by omega), hw _ (by omega) (by omega)]
              exact ht2I)
            have hi0 : (0 : Int) ≤ (i : Int) := by omega
            have hiD : (i : Int) < (D : Int) := by omega
            have hiDn : i < D := by omega
            rw [ht2] at HF2
            clear hz htx ht2
            go_wp2_with fail
            refine wp_region_held_drew (S := (fun w' => w'.cell? ⟨g, O + i, none⟩ = some (.int .u8 (z : Int)))) (by kernel_rfl) ?_ (fun hHeld => ?_)
            · exact cz
            refine takeD (i := 0) (oi := _) (v := ?vv29) (d := some 53) rfl (by kernel_rfl) (by kernel_rfl) (by kernel_rfl) (by kernel_rfl) (fun _ _ _ h => h) (Or.inl ⟨by kernel_rfl, ?_⟩) (by assumption) ?_
            rotate_left 1
            · intro W_ hSw; (try dsimp only at hSw); go_simp; (first | done | with_reducible rfl)
            try simp only [Act.put, List.setIfInBounds_toArray, List.set_cons_zero, List.set_cons_succ]
            refine takeD (i := 3) (oi := _) (v := ?vv30) (d := some 56) rfl (by kernel_rfl) (by kernel_rfl) (by kernel_rfl) (by kernel_rfl) (fun _ _ _ h => h) (Or.inl ⟨by kernel_rfl, ?_⟩) (by assumption) ?_
            rotate_left 1
            · intro W_ hSw; (try dsimp only at hSw); go_simp; (first | done | with_reducible rfl)
            try simp only [Act.put, List.setIfInBounds_toArray, List.set_cons_zero, List.set_cons_succ]
            refine takeD (i := 4) (oi := _) (v := ?vv31) (d := some 57) rfl (by kernel_rfl) (by kernel_rfl) (by kernel_rfl) (by kernel_rfl) (fun _ _ _ h => h) (Or.inl ⟨by kernel_rfl, ?_⟩) (by assumption) ?_
            rotate_left 1
            · intro W_ hSw; (try dsimp only at hSw); go_simp; (first | done | with_reducible rfl)
            try simp only [Act.put, List.setIfInBounds_toArray, List.set_cons_zero, List.set_cons_succ]
            refine takeD (i := 5) (oi := _) (v := ?vv32) (d := some 58) rfl (by kernel_rfl) (by kernel_rfl) (by kernel_rfl) (by kernel_rfl) (fun _ _ _ h => h) (Or.inl ⟨by kernel_rfl, ?_⟩) (by assumption) ?_
            rotate_left 1
            · intro W_ hSw; (try dsimp only at hSw); go_simp; (first | done | with_reducible rfl)
            try simp only [Act.put, List.setIfInBounds_toArray, List.set_cons_zero, List.set_cons_succ]
            refine takeD (i := 6) (oi := _) (v := ?vv33) (d := some 59) rfl (by kernel_rfl) (by kernel_rfl) (by kernel_rfl) (by kernel_rfl) (fun _ _ _ h => h) (Or.inl ⟨by kernel_rfl, ?_⟩) (by assumption) ?_
            rotate_left 1
            · intro W_ hSw; (try dsimp only at hSw); go_simp; (first | done | with_reducible rfl)
            try simp only [Act.put, List.setIfInBounds_toArray, List.set_cons_zero, List.set_cons_succ]
            refine takeD (i := 7) (oi := _) (v := ?vv34) (d := some 60) rfl (by kernel_rfl) (by kernel_rfl) (by kernel_rfl) (by kernel_rfl) (fun _ _ _ h => h) (Or.inl ⟨by kernel_rfl, ?_⟩) (by assumption) ?_
            rotate_left 1
            · intro W_ hSw; (try dsimp only at hSw); go_simp; (first | done | with_reducible rfl)
            try simp only [Act.put, List.setIfInBounds_toArray, List.set_cons_zero, List.set_cons_succ]
            refine wpAnyH_ready (rs := [1]) (by kernel_rfl) (by simp) ?_
            refine AllReadyH.cons (o := _) rfl (fun K hK => ?_) AllReadyH.nil
            go_simp
            refine hK.out _ _ ?_ (fun hHeld => ?_)
            · exact cz
            clear hK K
            try simp only [Act.put]
            try simp only [List.setIfInBounds_toArray]
            try simp only [List.set_cons_succ]
            try simp only [List.set_cons_zero]
            refine takeD (i := 2) (oi := _) (v := ?vv35) (d := some 55) rfl (by kernel_rfl) (by kernel_rfl) (by kernel_rfl) (by kernel_rfl) (fun _ _ _ h => h) (Or.inl ⟨by kernel_rfl, ?_⟩) (by assumption) ?_
            rotate_left 1
            · intro W_ hSw; (try dsimp only at hSw); go_simp; (first | done | with_reducible rfl)
            try simp only [Act.put, List.setIfInBounds_toArray, List.set_cons_zero, List.set_cons_succ]
            refine takeD (i := 8) (oi := _) (v := ?vv36) (d := some 61) rfl (by kernel_rfl) (by kernel_rfl) (by kernel_rfl) (by kernel_rfl) (fun _ _ _ h => h) (Or.inl ⟨by kernel_rfl, ?_⟩) (by assumption) ?_
            rotate_left 1
            · intro W_ hSw; (try dsimp only at hSw); go_simp; (first | done | with_reducible rfl)
            try simp only [Act.put, List.setIfInBounds_toArray, List.set_cons_zero, List.set_cons_succ]
            refine takeD (i := 9) (oi := _) (v := ?vv37) (d := some 62) rfl (by kernel_rfl) (by kernel_rfl) (by kernel_rfl) (by kernel_rfl) (fun _ _ _ h => h) (Or.inl ⟨by kernel_rfl, ?_⟩) (by assumption) ?_
            rotate_left 1
            · intro W_ hSw; (try dsimp only at hSw); go_simp; (first | done | with_reducible rfl)
            try simp only [Act.put, List.setIfInBounds_toArray, List.set_cons_zero, List.set_cons_succ]
            refine wpAnyH_ready (rs := [10]) (by kernel_rfl) (by simp) ?_
            refine AllReadyH.cons (o := _) rfl (fun K hK => ?_) AllReadyH.nil
            go_simp
            refine hK.out _ _ ?_ (fun hHeld => ?_)
            · exact keep_block (by omega) cz
            clear hK K
            try simp only [Act.put]
            try simp only [List.setIfInBounds_toArray]
            try simp only [List.set_cons_succ]
            try simp only [List.set_cons_zero]
            refine wpAnyH_done (by kernel_rfl) ?_ _
            rw [HWR.out]
            go_wp2
            go_roundw
            case rel => exact ⟨i + 1, by omega, by omega, by go_num, Lib.hid (by rw [HF2.out]; exact RQ.out.drew.set 1 (.int .u32 (t2 : Int))), Lib.hid (KQ.out.drew.set _)⟩
            case measure => simp [intOf]; omega
          · have HI5 : Hid (i = 5) := Lib.hid (by omega)
            have hiF : decide ((i : Int) < 5) = false := decide_eq_false (by omega)
            obtain ⟨tx, htx⟩ : ∃ tx, fold256 ((dd.drop 1).take (i - 1)) = tx := ⟨_, rfl⟩
            rw [htx] at RQ
            have HTX : Hid (Nr.num4 (dd.drop 1) = tx) := Lib.hid (by rw [← htx, HI5.out, H8.out]; simp [fold256, Nr.num4]; omega)
            obtain ⟨GB, hGB⟩ : ∃ GB, w1.heap.size = GB := ⟨_, rfl⟩
            have hGG : G < GB := by rw [← hGB]; exact R1.out.lt
            have hGQ : GB ≤ wq.heap.size := by rw [← hGB]; exact Nat.le_of_eq KQ.out.size.symm
            have MQ : Hid (Moves G none w1 wq) := Lib.hid (Moves.of_only KQ.out)
            have hgQ : g < GB := by omega
            clear htx
            go_wp2
            go_loopw [10] (fun v wp => ∃ (i : Nat) (At : Option Addr) (ct : Nat), i ≤ T ∧ v = .int .i64 (i : Int) ∧ Hid (RowAt wp G 34 (rcV b0 tx b5 yes At i ct)) ∧ Hid (wp.ownsRow GB 5 1 (.slice At i ct) i (((dd.drop 9).take i).map byw)) ∧ Hid (Moves G none w1 wp)) (fun v _ => T - (intOf v).toNat)
            case atStart => exact ⟨0, none, 0, by omega, rfl, RQ, Lib.hid (World.ownsRow_nil _ _ _ _), MQ⟩
            case round =>
              clear RQ KQ MQ hGQ
              rename World => wp
              obtain ⟨i, At, ct, hiT, rfl, RP, OP, MP⟩ := hrel
              by_cases hi : i < T
              · have hiI : (i : Int) < (T : Int) := by omega
                obtain ⟨p, hp⟩ : ∃ p, 9 + i = p := ⟨_, rfl⟩
                have hpI : 9 + (i : Int) = (p : Int) := by omega
                obtain ⟨z, hz⟩ : ∃ z, dd[p]? = some z := ⟨_, List.getElem?_eq_getElem (by rw [HDL.out]; omega)⟩
                have HTK : Hid ((dd.drop 9).take (i + 1) = (dd.drop 9).take i ++ [z]) := Lib.hid (by rw [List.take_add_one, List.getElem?_drop, hp, hz]; rfl)
                have HLT : Hid (((dd.drop 9).take i).length = i) := Lib.hid (by rw [List.length_take, List.length_drop, HDL.out]; omega)
                have hgp : g < wp.heap.size := by have := MP.out.size; omega
                have cz : wp.cell? ⟨g, O + p, none⟩ = some (.int .u8 (z : Int)) := by
                  have h1 := MP.out.block g (by omega) (by omega) (fun p hp => by cases hp)
                  rw [show wp.cell? ⟨g, O + p, none⟩ = w1.cell? ⟨g, O + p, none⟩ by simp [World.cell?, h1]]
                  exact (BE1.out.cell (p := ⟨g, O + p, none⟩) hg).trans (HCD.out p z hz)
                have ct4 : wp.cell? ⟨G, 4, none⟩ = some (.slice At i ct) := RP.out.cells 4
                have cf4 : wp.frozen? ⟨G, 4, none⟩ = false := RP.out.frozen 4
                have hGp : G < wp.heap.size := RP.out.lt
                have hBp : GB ≤ wp.heap.size := by have := MP.out.size; omega
                have hp0 : (0 : Int) ≤ (p : Int) := by omega
                have hwp : IntKind.i64.wrap (p : Int) = (p : Int) := by rw [IntKind.wrap_i64]; omega
                have hpD : (p : Int) < (D : Int) := by omega
                have hpDn : p < D := by omega
                clear hz hp
                go_wp2_with fail
                refine wp_region_held_drew (S := (fun w' => w'.cell? ⟨g, O + p, none⟩ = some (.int .u8 (z : Int)))) (by kernel_rfl) ?_ (fun hHeld => ?_)
                · exact cz
                refine takeD (i := 0) (oi := _) (v := ?vv38) (d := some 68) rfl (by kernel_rfl) (by kernel_rfl) (by kernel_rfl) (by kernel_rfl) (fun _ _ _ h => h) (Or.inl ⟨by kernel_rfl, ?_⟩) (by assumption) ?_
                rotate_left 1
                · intro W_ hSw; (try dsimp only at hSw); go_simp; (first | done | with_reducible rfl)
                try simp only [Act.put, List.setIfInBounds_toArray, List.set_cons_zero, List.set_cons_succ]
                refine takeD (i := 2) (oi := _) (v := ?vv39) (d := some 70) rfl (by kernel_rfl) (by kernel_rfl) (by kernel_rfl) (by kernel_rfl) (fun _ _ _ h => h) (Or.inl ⟨by kernel_rfl, ?_⟩) (by assumption) ?_
                rotate_left 1
                · intro W_ hSw; (try dsimp only at hSw); go_simp; (first | done | with_reducible rfl)
                try simp only [Act.put, List.setIfInBounds_toArray, List.set_cons_zero, List.set_cons_succ]
                refine takeD (i := 3) (oi := _) (v := ?vv40) (d := some 71) rfl (by kernel_rfl) (by kernel_rfl) (by kernel_rfl) (by kernel_rfl) (fun _ _ _ h => h) (Or.inl ⟨by kernel_rfl, ?_⟩) (by assumption) ?_
                rotate_left 1
                · intro W_ hSw; (try dsimp only at hSw); go_simp; (first | done | with_reducible rfl)
                try simp only [Act.put, List.setIfInBounds_toArray, List.set_cons_zero, List.set_cons_succ]
                refine takeD (i := 4) (oi := _) (v := ?vv41) (d := some 72) rfl (by kernel_rfl) (by kernel_rfl) (by kernel_rfl) (by kernel_rfl) (fun _ _ _ h => h) (Or.inl ⟨by kernel_rfl, ?_⟩) (by assumption) ?_
                rotate_left 1
                · intro W_ hSw; (try dsimp only at hSw); go_simp; (first | done | with_reducible rfl)
                try simp only [Act.put, List.setIfInBounds_toArray, List.set_cons_zero, List.set_cons_succ]
                refine takeD (i := 5) (oi := _) (v := ?vv42) (d := some 73) rfl (by kernel_rfl) (by kernel_rfl) (by kernel_rfl) (by kernel_rfl) (fun _ _ _ h => h) (Or.inl ⟨by kernel_rfl, ?_⟩) (by assumption) ?_
                rotate_left 1
                · intro W_ hSw; (try dsimp only at hSw); go_simp; (first | done | with_reducible rfl)
                try simp only [Act.put, List.setIfInBounds_toArray, List.set_cons_zero, List.set_cons_succ]
                refine takeD (i := 6) (oi := _) (v := ?vv43) (d := some 74) rfl (by kernel_rfl) (by kernel_rfl) (by kernel_rfl) (by kernel_rfl) (fun _ _ _ h => h) (Or.inl ⟨by kernel_rfl, ?_⟩) (by assumption) ?_
                rotate_left 1
                · intro W_ hSw; (try dsimp only at hSw); go_simp; (first | done | with_reducible rfl)
                try simp only [Act.put, List.setIfInBounds_toArray, List.set_cons_zero, List.set_cons_succ]
                refine wpAnyH_ready (rs := [1, 7]) (by kernel_rfl) (by simp) ?_
                refine AllReadyH.cons (o := _) rfl (fun K hK => ?_) (AllReadyH.cons (o := _) rfl (fun K hK => ?_) AllReadyH.nil)
                · go_simp
                  refine hK.out _ _ ?_ (fun hHeld => ?_)
                  · exact cz
                  clear hK K
                  try simp only [Act.put]
                  try simp only [List.setIfInBounds_toArray]
                  try simp only [List.set_cons_succ]
                  try simp only [List.set_cons_zero]
                  refine wpAnyH_ready (rs := [7]) (by kernel_rfl) (by simp) ?_
                  refine AllReadyH.cons (o := _) rfl (fun K hK => ?_) AllReadyH.nil
                  go_simp
                  refine hK.out _ _ ?_ (fun hHeld => ?_)
                  · exact keep_alloc cz
                  clear hK K
                  try simp only [Act.put]
                  try simp only [List.setIfInBounds_toArray]
                  try simp only [List.set_cons_succ]
                  try simp only [List.set_cons_zero]
                  have cz1 := keep_alloc (o := .cells #[byw z] 5) cz
                  refine wpAnyH_ready (rs := [8]) (by kernel_rfl) (by simp) ?_
                  refine AllReadyH.cons (o := _) rfl (fun K hK => ?_) AllReadyH.nil
                  (refine step_append_n (f := byw) _ (by rfl) (.tmp 69) (.tmp 75) 24 (by rfl) (fun _ => rfl) GB 5 i2 _ _ Try.underlying24 hif2 hx0 rfl hx1 hx2 (by decide) At ct i ((dd.drop 9).take i) (by rfl) HLT.out (by first | exact own_below OP.out (bel_alloc (Below.refl _ _).drew _) | exact own_below OP.out.drew (bel_alloc (Below.refl _ _) _) | exact own_below OP.out (bel_alloc (Below.refl _ _) _).drew) (wp.heap.size + 1) (some ⟨wp.heap.size, 0, none⟩) [z] 1 1 rfl (by rfl) (Sq.lits _ _ _ _ _ _ _ (by simp) (by simp) (by simp)) (by simp) (i + 1) rfl (by omega) (by simp; omega) ?_; intro A9 c9 w9 o9 g9 b9; have O9 := Lib.hid o9; have G9 := Lib.hid g9; have BL : Hid (Below GB wp w9) := Lib.hid (by first | exact ((Below.refl GB wp).drew.alloc hBp _).trans b9 | exact ((Below.refl GB wp).alloc hBp _).drew.trans b9 | exact (((Below.refl GB wp).alloc hBp _).drew.drew).trans b9); have cz9 : w9.cell? ⟨g, O + p, none⟩ = some (.int .u8 (z : Int)) := (BL.out.cell (p := ⟨g, O + p, none⟩) hgQ).trans cz; have R9 := Lib.hid (RP.out.below BL.out hGG); clear o9 g9 b9)
                  refine hK.out _ _ ?_ (fun hHeld => ?_)
                  · exact cz9
                  clear hK K
                  try simp only [Act.put]
                  try simp only [List.setIfInBounds_toArray]
                  try simp only [List.set_cons_succ]
                  try simp only [List.set_cons_zero]
                  have cf9 : w9.frozen? ⟨G, 4, none⟩ = false := R9.out.frozen 4
                  have ct9 : w9.cell? ⟨G, 4, none⟩ = some (.slice At i ct) := R9.out.cells 4
                  have M9 : Hid (Moves G none w1 w9) := Lib.hid ⟨BL.out.os.trans MP.out.os, BL.out.tape.trans MP.out.tape, BL.out.output.trans MP.out.output, Nat.le_trans MP.out.size BL.out.size, fun k hk h1 h2 => (BL.out.block k (by omega)).trans (MP.out.block k hk h1 h2)⟩
                  refine takeD (i := 9) (oi := _) (v := ?vv44) (d := some 77) rfl (by kernel_rfl) (by kernel_rfl) (by kernel_rfl) (by kernel_rfl) (fun _ _ _ h => h) (Or.inl ⟨by kernel_rfl, ?_⟩) (by assumption) ?_
                  rotate_left 1
                  · intro W_ hSw; (try dsimp only at hSw); go_simp; (first | done | with_reducible rfl)
                  try simp only [Act.put, List.setIfInBounds_toArray, List.set_cons_zero, List.set_cons_succ]
                  refine wpAnyH_ready (rs := [10]) (by kernel_rfl) (by simp) ?_
                  refine AllReadyH.cons (o := _) rfl (fun K hK => ?_) AllReadyH.nil
                  go_simp
                  refine hK.out _ _ ?_ (fun hHeld => ?_)
                  · exact keep_block (by omega) cz9
                  clear hK K
                  try simp only [Act.put]
                  try simp only [List.setIfInBounds_toArray]
                  try simp only [List.set_cons_succ]
                  try simp only [List.set_cons_zero]
                  refine wpAnyH_done (by kernel_rfl) ?_ _
                  go_wp2
                  go_roundw
                  case rel => exact ⟨i + 1, A9, c9, by omega, by go_num, Lib.hid (R9.out.set 4 (.slice A9 (i + 1) c9)), Lib.hid (by rw [HTK.out]; exact ((Only.refl G w9).set (.slice A9 (i + 1) c9)).own O9.out hGG), Lib.hid (M9.out.trans (.inl rfl) (Moves.of_only ((Only.refl G w9).set (.slice A9 (i + 1) c9))))⟩
                  case measure => simp [intOf]; omega
                · go_simp
                  refine hK.out _ _ ?_ (fun hHeld => ?_)
                  · exact keep_alloc cz
                  clear hK K
                  try simp only [Act.put]
                  try simp only [List.setIfInBounds_toArray]
                  try simp only [List.set_cons_succ]
                  try simp only [List.set_cons_zero]
                  refine wpAnyH_ready (rs := [1]) (by kernel_rfl) (by simp) ?_
                  refine AllReadyH.cons (o := _) rfl (fun K hK => ?_) AllReadyH.nil
                  (go_simp; try simp only [keep_alloc ct4])
                  refine hK.out _ _ ?_ (fun hHeld => ?_)
                  · exact keep_alloc cz
                  clear hK K
                  try simp only [Act.put]
                  try simp only [List.setIfInBounds_toArray]
                  try simp only [List.set_cons_succ]
                  try simp only [List.set_cons_zero]
                  refine wpAnyH_ready (rs := [8]) (by kernel_rfl) (by simp) ?_
                  refine AllReadyH.cons (o := _) rfl (fun K hK => ?_) AllReadyH.nil
                  (refine step_append_n (f := byw) _ (by rfl) (.tmp 69) (.tmp 75) 24 (by rfl) (fun _ => rfl) GB 5 i2 _ _ Try.underlying24 hif2 hx0 rfl hx1 hx2 (by decide) At ct i ((dd.drop 9).take i) (by rfl) HLT.out (by first | exact own_below OP.out (bel_alloc (Below.refl _ _).drew _) | exact own_below OP.out.drew (bel_alloc (Below.refl _ _) _) | exact own_below OP.out (bel_alloc (Below.refl _ _) _).drew) (wp.heap.size + 1) (some ⟨wp.heap.size, 0, none⟩) [z] 1 1 rfl (by rfl) (Sq.lits _ _ _ _ _ _ _ (by simp) (by simp) (by simp)) (by simp) (i + 1) rfl (by omega) (by simp; omega) ?_; intro A9 c9 w9 o9 g9 b9; have O9 := Lib.hid o9; have G9 := Lib.hid g9; have BL : Hid (Below GB wp w9) := Lib.hid (by first | exact ((Below.refl GB wp).drew.alloc hBp _).trans b9 | exact ((Below.refl GB wp).alloc hBp _).drew.trans b9 | exact (((Below.refl GB wp).alloc hBp _).drew.drew).trans b9); have cz9 : w9.cell? ⟨g, O + p, none⟩ = some (.int .u8 (z : Int)) := (BL.out.cell (p := ⟨g, O + p, none⟩) hgQ).trans cz; have R9 := Lib.hid (RP.out.below BL.out hGG); clear o9 g9 b9)
                  refine hK.out _ _ ?_ (fun hHeld => ?_)
                  · exact cz9
                  clear hK K
                  try simp only [Act.put]
                  try simp only [List.setIfInBounds_toArray]
                  try simp only [List.set_cons_succ]
                  try simp only [List.set_cons_zero]
                  have cf9 : w9.frozen? ⟨G, 4, none⟩ = false := R9.out.frozen 4
                  have ct9 : w9.cell? ⟨G, 4, none⟩ = some (.slice At i ct) := R9.out.cells 4
                  have M9 : Hid (Moves G none w1 w9) := Lib.hid ⟨BL.out.os.trans MP.out.os, BL.out.tape.trans MP.out.tape, BL.out.output.trans MP.out.output, Nat.le_trans MP.out.size BL.out.size, fun k hk h1 h2 => (BL.out.block k (by omega)).trans (MP.out.block k hk h1 h2)⟩
                  refine takeD (i := 9) (oi := _) (v := ?vv45) (d := some 77) rfl (by kernel_rfl) (by kernel_rfl) (by kernel_rfl) (by kernel_rfl) (fun _ _ _ h => h) (Or.inl ⟨by kernel_rfl, ?_⟩) (by assumption) ?_
                  rotate_left 1
                  · intro W_ hSw; (try dsimp only at hSw); go_simp; (first | done | with_reducible rfl)
                  try simp only [Act.put, List.setIfInBounds_toArray, List.set_cons_zero, List.set_cons_succ]
                  refine wpAnyH_ready (rs := [10]) (by kernel_rfl) (by simp) ?_
                  refine AllReadyH.cons (o := _) rfl (fun K hK => ?_) AllReadyH.nil
                  go_simp
                  refine hK.out _ _ ?_ (fun hHeld => ?_)
                  · exact keep_block (by omega) cz9
                  clear hK K
                  try simp only [Act.put]
                  try simp only [List.setIfInBounds_toArray]
                  try simp only [List.set_cons_succ]
                  try simp only [List.set_cons_zero]
                  refine wpAnyH_done (by kernel_rfl) ?_ _
                  go_wp2
                  go_roundw
                  case rel => exact ⟨i + 1, A9, c9, by omega, by go_num, Lib.hid (R9.out.set 4 (.slice A9 (i + 1) c9)), Lib.hid (by rw [HTK.out]; exact ((Only.refl G w9).set (.slice A9 (i + 1) c9)).own O9.out hGG), Lib.hid (M9.out.trans (.inl rfl) (Moves.of_only ((Only.refl G w9).set (.slice A9 (i + 1) c9))))⟩
                  case measure => simp [intOf]; omega
              · have HIT : Hid (i = T) := Lib.hid (by omega)
                have hiF : decide ((i : Int) < (T : Int)) = false := decide_eq_false (by omega)
                obtain ⟨X, hX⟩ : ∃ X, Nr.parse dd = X := ⟨_, rfl⟩
                have hXp : X.what = b0 ∧ X.tx = tx ∧ X.who = b5 ∧ X.yes = yes ∧ X.text = (dd.drop 9).take i := by
                  rw [← hX]
                  exact ⟨by simp only [Nr.parse, H8.out]; rfl, HTX.out, by simp only [Nr.parse, H8.out]; rfl, by rw [← hyes]; simp only [Nr.parse, H8.out]; rw [Bool.eq_iff_iff]; simp; omega, by rw [HIT.out, ← HTT.out]; rfl⟩
                have hXl : X.text.length = i := by rw [hXp.2.2.2.2, List.length_take, List.length_drop, HDL.out]; omega
                have hXf : X.Fit := ⟨by rw [hXp.1]; exact HUD.out b0 (by rw [H8.out]; simp), by rw [hXp.2.1, ← HTX.out, H8.out]; have h1 := HUD.out b1 (by rw [H8.out]; simp); have h2 := HUD.out b2 (by rw [H8.out]; simp); have h3 := HUD.out b3 (by rw [H8.out]; simp); have h4 := HUD.out b4 (by rw [H8.out]; simp); simp [Nr.num4]; omega, by rw [hXp.2.2.1]; exact HUD.out b5 (by rw [H8.out]; simp), fun y hy => HUD.out y (by rw [hXp.2.2.2.2] at hy; exact List.mem_of_mem_drop (List.mem_of_mem_take hy))⟩
                have HX := Lib.hid hX
                have HXP := Lib.hid hXp
                have HXL := Lib.hid hXl
                have HXF := Lib.hid hXf
                have kr := rright_any X At ct i hXl wp
                have kb := Lib.hid (fun W hW => rbytes_any X At ct i hXl hXf (by omega) W hW (own_nil_c OP.out).1)
                rw [hXp.1, hXp.2.1, hXp.2.2.1, hXp.2.2.2.1] at kr kb
                obtain ⟨rt, hrt⟩ : ∃ rt, X.right = rt := ⟨_, rfl⟩
                rw [hrt] at kr
                have HRT := Lib.hid hrt
                have OL := Lib.hid (OL1.out.moves MP.out APG.out (fun p hp => by cases hp))
                have BE := Lib.hid (BE1.out.trans (MP.out.below HGw (fun p hp => by cases hp) BE1.out.size))
                clear hX hXp hXl hXf hrt
                go_wp2_with (refine wpList_load_var rfl 34 (.tmp 8) rfl G rfl (rcV b0 tx b5 yes At i ct) _ 5 RP.out Try.underlying34 rfl size_rec rfl ?_)
                refine kr.mono ?_
                clear kr
                rintro e wa ⟨rfl, ba⟩
                replace OL := Lib.hid (OL.out.to ba)
                replace BE := Lib.hid (BE.out.trans (ba.mono BE.out.size))
                replace RP := Lib.hid (RP.out.to ba)
                replace OP := Lib.hid (own_below OP.out ba)
                have hGa : GB ≤ wa.heap.size := by have := MP.out.size; have := ba.size; omega
                clear ba MP
                cases rt
                · have HF : Hid (Nr.first dd = none) := Lib.hid (by
                    cases hf : Nr.first dd with
                    | none => rfl
                    | some q =>
                      have h1 := Nr.first_some HUD.out hf
                      rw [h1.2.2.2.2, HX.out, HRT.out] at h1
                      exact absurd h1.2.1 (by decide))
                  go_wp2
                  go_ret2
                  refine ⟨A', c', m, rs, ?_, OL.out, ?_, HNL.out, BE.out⟩
                  · rw [HRD.out, Nr.read_none HF.out]; rfl
                  · rw [HRD.out, Nr.read_none HF.out]; simp
                · have SP : Hid (Sq byw wa wa.heap.size At X.text) := Lib.hid (by rw [HXP.out.2.2.2.2]; exact Sq.of_own OP.out)
                  go_wp2_with (refine wpList_load_var rfl 34 (.tmp 8) rfl G rfl (rcV b0 tx b5 yes At i ct) _ 5 RP.out Try.underlying34 rfl size_rec rfl ?_)
                  refine (kb.out wa SP.out).mono ?_
                  rintro e wb ⟨A7, c7, rfl, o7, b7⟩
                  obtain ⟨nb, hnb⟩ : ∃ nb, X.bytes.length = nb := ⟨_, rfl⟩
                  rw [hnb] at o7
                  rw [hnb]
                  have HNB := Lib.hid hnb
                  have hnb13 : nb = 13 + i := by rw [← hnb, Nr.bytes_length, Nr.size, HXL.out]
                  have hnbD : nb ≤ D := by have := HIT.out; omega
                  have hnb0 : 0 < nb := by omega
                  have hnbm : 13 ≤ nb := by omega
                  have O7 := Lib.hid o7
                  replace OL := Lib.hid (OL.out.to b7)
                  replace BE := Lib.hid (BE.out.trans (b7.mono BE.out.size))
                  replace RP := Lib.hid (RP.out.to b7)
                  replace OP := Lib.hid (own_below OP.out b7)
                  obtain ⟨g7, hg7, _, hg7b⟩ := own_some O7.out hnb0
                  subst hg7
                  have hgb : g < wb.heap.size := by have := b7.size; omega
                  clear o7 b7 hnb SP kb hnb13
                  go_wp2
                  go_loopw [12] (fun v wl => ∃ q : Nat, q ≤ nb ∧ v = .int .i64 (q : Int) ∧ Hid (∀ k, k < q → X.bytes[k]? = dd[k]?) ∧ Hid (Below wb.heap.size wb wl)) (fun v _ => nb - (intOf v).toNat)
                  case atStart => exact ⟨0, by omega, rfl, Lib.hid (fun k hk => by omega), Lib.hid (Below.refl _ _)⟩
                  case round =>
                    rename World => wl
                    obtain ⟨q, hq, rfl, HEQ, BL⟩ := hrel
                    by_cases hqn : q < nb
                    · have hqI : (q : Int) < (nb : Int) := by omega
                      have hq0 : (0 : Int) ≤ (q : Int) := by omega
                      have hqD : (q : Int) < (D : Int) := by omega
                      have hqDn : q < D := by omega
                      obtain ⟨x1, hx1⟩ : ∃ x1, X.bytes[q]? = some x1 := ⟨_, List.getElem?_eq_getElem (by rw [HNB.out]; exact hqn)⟩
                      obtain ⟨y1, hy1⟩ : ∃ y1, dd[q]? = some y1 := ⟨_, List.getElem?_eq_getElem (by rw [HDL.out]; exact hqDn)⟩
                      have cx : wl.cell? ⟨g7, q, none⟩ = some (.int .u8 (x1 : Int)) := ((own_below O7.out BL.out).cellAt q (by omega)).trans (map_get hx1)
                      have cy : wl.cell? ⟨g, O + q, none⟩ = some (.int .u8 (y1 : Int)) := (BL.out.cell (p := ⟨g, O + q, none⟩) hgb).trans ((BE.out.cell (p := ⟨g, O + q, none⟩) hg).trans (HCD.out q y1 hy1))
                      by_cases hxy : x1 = y1
                      · have gxy : ((x1 : Int) != (y1 : Int)) = false := by simp; omega
                        have HE2 : Hid (∀ k, k < q + 1 → X.bytes[k]? = dd[k]?) := Lib.hid (fun k hk => by
                          rcases Nat.lt_or_ge k q with h | h
                          · exact HEQ.out k h
                          · rw [show k = q by omega, hx1, hy1, hxy])
                        clear hx1 hy1 hxy
                        go_wp2_with fail
                        refine wp_region_held_drew (S := (fun w' => w'.cell? ⟨g7, q, none⟩ = some (.int .u8 (x1 : Int)) ∧ w'.cell? ⟨g, O + q, none⟩ = some (.int .u8 (y1 : Int)))) (by kernel_rfl) ?_ (fun hHeld => ?_)
                        · exact ⟨cx, cy⟩
                        refine takeD (i := 0) (oi := _) (v := ?vv46) (d := some 91) rfl (by kernel_rfl) (by kernel_rfl) (by kernel_rfl) (by kernel_rfl) (fun _ _ _ h => h) (Or.inl ⟨by kernel_rfl, ?_⟩) (by assumption) ?_
                        rotate_left 1
                        · intro W_ hSw; (try dsimp only at hSw); go_simp; (first | done | with_reducible rfl)
                        try simp only [Act.put, List.setIfInBounds_toArray, List.set_cons_zero, List.set_cons_succ]
                        refine takeD (i := 1) (oi := _) (v := ?vv47) (d := some 92) rfl (by kernel_rfl) (by kernel_rfl) (by kernel_rfl) (by kernel_rfl) (fun _ _ _ h => h) (Or.inl ⟨by kernel_rfl, ?_⟩) (by assumption) ?_
                        rotate_left 1
                        · intro W_ hSw; (try dsimp only at hSw); go_simp; (first | done | with_reducible rfl)
                        try simp only [Act.put, List.setIfInBounds_toArray, List.set_cons_zero, List.set_cons_succ]
                        refine takeD (i := 2) (oi := _) (v := ?vv48) (d := some 93) rfl (by kernel_rfl) (by kernel_rfl) (by kernel_rfl) (by kernel_rfl) (fun _ _ _ h => h) (Or.inl ⟨by kernel_rfl, ?_⟩) (by assumption) ?_
                        rotate_left 1
                        · intro W_ hSw; (try dsimp only at hSw); go_simp; (first | done | with_reducible rfl)
                        try simp only [Act.put, List.setIfInBounds_toArray, List.set_cons_zero, List.set_cons_succ]
                        refine takeD (i := 3) (oi := _) (v := ?vv49) (d := some 94) rfl (by kernel_rfl) (by kernel_rfl) (by kernel_rfl) (by kernel_rfl) (fun _ _ _ h => h) (Or.inl ⟨by kernel_rfl, ?_⟩) (by assumption) ?_
                        rotate_left 1
                        · intro W_ hSw; (try dsimp only at hSw); go_simp; (first | done | with_reducible rfl)
                        try simp only [Act.put, List.setIfInBounds_toArray, List.set_cons_zero, List.set_cons_succ]
                        refine takeD (i := 4) (oi := _) (v := ?vv50) (d := some 95) rfl (by kernel_rfl) (by kernel_rfl) (by kernel_rfl) (by kernel_rfl) (fun _ _ _ h => h) (Or.inl ⟨by kernel_rfl, ?_⟩) (by assumption) ?_
                        rotate_left 1
                        · intro W_ hSw; (try dsimp only at hSw); go_simp; (first | done | with_reducible rfl)
                        try simp only [Act.put, List.setIfInBounds_toArray, List.set_cons_zero, List.set_cons_succ]
                        refine takeD (i := 5) (oi := _) (v := ?vv51) (d := some 96) rfl (by kernel_rfl) (by kernel_rfl) (by kernel_rfl) (by kernel_rfl) (fun _ _ _ h => h) (Or.inl ⟨by kernel_rfl, ?_⟩) (by assumption) ?_
                        rotate_left 1
                        · intro W_ hSw; (try dsimp only at hSw); go_simp; (first | done | with_reducible rfl)
                        try simp only [Act.put, List.setIfInBounds_toArray, List.set_cons_zero, List.set_cons_succ]
                        refine takeD (i := 6) (oi := _) (v := ?vv52) (d := some 97) rfl (by kernel_rfl) (by kernel_rfl) (by kernel_rfl) (by kernel_rfl) (fun _ _ _ h => h) (Or.inl ⟨by kernel_rfl, ?_⟩) (by assumption) ?_
                        rotate_left 1
                        · intro W_ hSw; (try dsimp only at hSw); go_simp; (first | done | with_reducible rfl)
                        try simp only [Act.put, List.setIfInBounds_toArray, List.set_cons_zero, List.set_cons_succ]
                        refine takeD (i := 7) (oi := _) (v := ?vv53) (d := some 98) rfl (by kernel_rfl) (by kernel_rfl) (by kernel_rfl) (by kernel_rfl) (fun _ _ _ h => h) (Or.inl ⟨by kernel_rfl, ?_⟩) (by assumption) ?_
                        rotate_left 1
                        · intro W_ hSw; (try dsimp only at hSw); go_simp; (first | done | with_reducible rfl)
                        try simp only [Act.put, List.setIfInBounds_toArray, List.set_cons_zero, List.set_cons_succ]
                        refine takeD (i := 8) (oi := _) (v := ?vv54) (d := some 99) rfl (by kernel_rfl) (by kernel_rfl) (by kernel_rfl) (by kernel_rfl) (fun _ _ _ h => h) (Or.inl ⟨by kernel_rfl, ?_⟩) (by assumption) ?_
                        rotate_left 1
                        · intro W_ hSw; (try dsimp only at hSw); go_simp; (first | done | with_reducible rfl)
                        try simp only [Act.put, List.setIfInBounds_toArray, List.set_cons_zero, List.set_cons_succ]
                        refine wpAnyH_done (by kernel_rfl) ?_ _
                        go_wp2
                        go_roundw
                        case rel => exact ⟨q + 1, by omega, by go_num, HE2, Lib.hid BL.out.drew⟩
                        case measure => simp [intOf]; omega
                      · have gxy : ((x1 : Int) != (y1 : Int)) = true := by simp; omega
                        have HF : Hid (Nr.first dd = none) := Lib.hid (by
                          cases hf : Nr.first dd with
                          | none => rfl
                          | some v =>
                            have h1 := Nr.first_some HUD.out hf
                            have h2 := h1.1
                            rw [h1.2.2.2.2, HX.out] at h2
                            have h3 : dd[q]? = X.bytes[q]? := by
                              conv => lhs; rw [h2]
                              exact List.getElem?_append_left (by rw [HNB.out]; exact hqn)
                            rw [hx1, hy1] at h3
                            exact absurd (Option.some.inj h3).symm hxy)
                        clear hx1 hy1 hxy
                        replace OL := Lib.hid (OL.out.to BL.out.drew)
                        replace BE := Lib.hid (BE.out.trans (BL.out.drew.mono BE.out.size))
                        go_wp2_with fail
                        refine wp_region_held_drew (S := (fun w' => w'.cell? ⟨g7, q, none⟩ = some (.int .u8 (x1 : Int)) ∧ w'.cell? ⟨g, O + q, none⟩ = some (.int .u8 (y1 : Int)))) (by kernel_rfl) ?_ (fun hHeld => ?_)
                        · exact ⟨cx, cy⟩
                        refine takeD (i := 0) (oi := _) (v := ?vv55) (d := some 91) rfl (by kernel_rfl) (by kernel_rfl) (by kernel_rfl) (by kernel_rfl) (fun _ _ _ h => h) (Or.inl ⟨by kernel_rfl, ?_⟩) (by assumption) ?_
                        rotate_left 1
                        · intro W_ hSw; (try dsimp only at hSw); go_simp; (first | done | with_reducible rfl)
                        try simp only [Act.put, List.setIfInBounds_toArray, List.set_cons_zero, List.set_cons_succ]
                        refine takeD (i := 1) (oi := _) (v := ?vv56) (d := some 92) rfl (by kernel_rfl) (by kernel_rfl) (by kernel_rfl) (by kernel_rfl) (fun _ _ _ h => h) (Or.inl ⟨by kernel_rfl, ?_⟩) (by assumption) ?_
                        rotate_left 1
                        · intro W_ hSw; (try dsimp only at hSw); go_simp; (first | done | with_reducible rfl)
                        try simp only [Act.put, List.setIfInBounds_toArray, List.set_cons_zero, List.set_cons_succ]
                        refine takeD (i := 2) (oi := _) (v := ?vv57) (d := some 93) rfl (by kernel_rfl) (by kernel_rfl) (by kernel_rfl) (by kernel_rfl) (fun _ _ _ h => h) (Or.inl ⟨by kernel_rfl, ?_⟩) (by assumption) ?_
                        rotate_left 1
                        · intro W_ hSw; (try dsimp only at hSw); go_simp; (first | done | with_reducible rfl)
                        try simp only [Act.put, List.setIfInBounds_toArray, List.set_cons_zero, List.set_cons_succ]
                        refine takeD (i := 3) (oi := _) (v := ?vv58) (d := some 94) rfl (by kernel_rfl) (by kernel_rfl) (by kernel_rfl) (by kernel_rfl) (fun _ _ _ h => h) (Or.inl ⟨by kernel_rfl, ?_⟩) (by assumption) ?_
                        rotate_left 1
                        · intro W_ hSw; (try dsimp only at hSw); go_simp; (first | done | with_reducible rfl)
                        try simp only [Act.put, List.setIfInBounds_toArray, List.set_cons_zero, List.set_cons_succ]
                        refine takeD (i := 4) (oi := _) (v := ?vv59) (d := some 95) rfl (by kernel_rfl) (by kernel_rfl) (by kernel_rfl) (by kernel_rfl) (fun _ _ _ h => h) (Or.inl ⟨by kernel_rfl, ?_⟩) (by assumption) ?_
                        rotate_left 1
                        · intro W_ hSw; (try dsimp only at hSw); go_simp; (first | done | with_reducible rfl)
                        try simp only [Act.put, List.setIfInBounds_toArray, List.set_cons_zero, List.set_cons_succ]
                        refine takeD (i := 5) (oi := _) (v := ?vv60) (d := some 96) rfl (by kernel_rfl) (by kernel_rfl) (by kernel_rfl) (by kernel_rfl) (fun _ _ _ h => h) (Or.inl ⟨by kernel_rfl, ?_⟩) (by assumption) ?_
                        rotate_left 1
                        · intro W_ hSw; (try dsimp only at hSw); go_simp; (first | done | with_reducible rfl)
                        try simp only [Act.put, List.setIfInBounds_toArray, List.set_cons_zero, List.set_cons_succ]
                        refine takeD (i := 6) (oi := _) (v := ?vv61) (d := some 97) rfl (by kernel_rfl) (by kernel_rfl) (by kernel_rfl) (by kernel_rfl) (fun _ _ _ h => h) (Or.inl ⟨by kernel_rfl, ?_⟩) (by assumption) ?_
                        rotate_left 1
                        · intro W_ hSw; (try dsimp only at hSw); go_simp; (first | done | with_reducible rfl)
                        try simp only [Act.put, List.setIfInBounds_toArray, List.set_cons_zero, List.set_cons_succ]
                        refine takeD (i := 7) (oi := _) (v := ?vv62) (d := some 98) rfl (by kernel_rfl) (by kernel_rfl) (by kernel_rfl) (by kernel_rfl) (fun _ _ _ h => h) (Or.inl ⟨by kernel_rfl, ?_⟩) (by assumption) ?_
                        rotate_left 1
                        · intro W_ hSw; (try dsimp only at hSw); go_simp; (first | done | with_reducible rfl)
                        try simp only [Act.put, List.setIfInBounds_toArray, List.set_cons_zero, List.set_cons_succ]
                        refine takeD (i := 8) (oi := _) (v := ?vv63) (d := some 99) rfl (by kernel_rfl) (by kernel_rfl) (by kernel_rfl) (by kernel_rfl) (fun _ _ _ h => h) (Or.inl ⟨by kernel_rfl, ?_⟩) (by assumption) ?_
                        rotate_left 1
                        · intro W_ hSw; (try dsimp only at hSw); go_simp; (first | done | with_reducible rfl)
                        try simp only [Act.put, List.setIfInBounds_toArray, List.set_cons_zero, List.set_cons_succ]
                        refine wpAnyH_done (by kernel_rfl) ?_ _
                        go_wp2
                        go_ret2
                        refine ⟨A', c', m, rs, ?_, OL.out, ?_, HNL.out, BE.out⟩
                        · rw [HRD.out, Nr.read_none HF.out]; rfl
                        · rw [HRD.out, Nr.read_none HF.out]; simp
                    · have HQN : Hid (q = nb) := Lib.hid (by omega)
                      have hqF : decide ((q : Int) < (nb : Int)) = false := decide_eq_false (by omega)
                      have ht : X.bytes = dd.take nb := by
                        apply List.ext_getElem?
                        intro k
                        rw [List.getElem?_take]
                        split
                        · exact HEQ.out k (by omega)
                        · exact List.getElem?_eq_none (by rw [HNB.out]; omega)
                      have HFX : Hid (Nr.first dd = some X) := Lib.hid ((Nr.first_iff HUD.out X).2 ⟨by rw [HTT.out, HDL.out]; omega, by rw [HDL.out]; omega, HX.out.symm, HRT.out, ⟨dd.drop nb, by rw [ht]; exact List.take_append_drop _ _⟩⟩)
                      have HZ : Hid (X.size = nb) := Lib.hid (by rw [← Nr.bytes_length, HNB.out])
                      clear ht
                      replace OL := Lib.hid (OL.out.to BL.out)
                      replace BE := Lib.hid (BE.out.trans (BL.out.mono BE.out.size))
                      replace OP := Lib.hid (own_below OP.out BL.out)
                      have RP2 : Hid (RowAt wl G 34 (rcV X.what X.tx X.who X.yes At X.text.length ct)) := Lib.hid (by rw [HXP.out.1, HXP.out.2.1, HXP.out.2.2.1, HXP.out.2.2.2.1, HXL.out]; exact RP.out.to BL.out)
                      have HSX : Hid (Sq byw wl wl.heap.size At X.text) := Lib.hid (by rw [HXP.out.2.2.2.2]; exact Sq.of_own OP.out)
                      have HOFF : Hid (recK.Off A' ⟨X, At, ct⟩) := Lib.hid (fun hn p q hp hq => by have h1 := (own_at_s OP.out p hp).1; have h2 := (own_at_s OL1.out.own q hq).2.1; omega)
                      have NP := Lib.hid (own_nil_s OP.out)
                      have HAT := Lib.hid (fun p hp => (own_at_s OP.out p hp).1)
                      go_wp2_with (first
                        | (refine wpList_load_var rfl 34 (.tmp 8) rfl G rfl (rcV X.what X.tx X.who X.yes At X.text.length ct) _ 5 RP2.out Try.underlying34 rfl size_rec rfl ?_)
                        | (at_builtin; refine wpList_append_el wl rfl (.tmp 102) (.tmp 104) 22 rfl recK_fine w.heap.size 34 i1 _ 40 Try.underlying22 hif1 hy0 hy1 hy2 rfl A' m c' rs rfl 34 ⟨X, At, ct⟩ wl.heap.size rfl OL.out rfl HSX.out HOFF.out (by omega) (by omega) BE.out.size ?_; intro A4 c4 w4 ol4 g4 wh4 b4; have OL4 := Lib.hid ol4; have B4 := Lib.hid (BE.out.trans b4); clear ol4 g4 wh4 b4))
                      go_roundw
                      case rel =>
                        have hrx := Nr.read_some HFX.out
                        refine ⟨rs ++ [⟨X, At, ct⟩], m + 1, A4, c4, at_ + nb, rfl, by go_num, by omega, OL4.out, Lib.hid ?_, fun r hr => ?_, by omega, B4.out⟩
                        · rw [HRD.out, hrx, HZ.out, ← HDD.out, List.drop_drop]
                          simp [Nat.add_assoc]
                        · rcases List.mem_append.1 hr with h1 | h1
                          · exact HNL.out r h1
                          · obtain rfl := List.mem_singleton.1 h1
                            exact ⟨⟨fun h => (NP.out.1 h).1, by rw [HXL.out]; exact NP.out.2.1, NP.out.2.2⟩, fun p hp => Nat.le_trans (Nat.le_trans HGw (Nat.le_of_lt hGG)) (HAT.out p hp)⟩
                      case measure => simp [intOf]; omega
end Go.Proofs.Ytbokggilfepdhaa
