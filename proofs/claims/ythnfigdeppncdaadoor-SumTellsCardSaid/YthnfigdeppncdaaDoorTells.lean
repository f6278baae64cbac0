/- SumTells: the document's sums (saucierref08), and the walk. -/
import Derived.Test.YthnfigdeppncdaaDoorJoinsW
import Derived.Deep.RegionHeld3
namespace Go.Proofs.YthnfigdeppncdaaDoor
open Go.RowKit
set_option linter.unusedVariables false
attribute [local go_sem] Later.cell Later.frozen setCell_twice
abbrev u16v (x : Nat) : Value := .int .u16 (x : Int)
theorem refAdd_any (s b : Nat) (w : World) (h : s < 4294967296) (hb : b < 256) :
    Calls Tryd.prog 8 #[.int .u32 (s : Int), .int .u8 (b : Int)] w fun e w' => e = .returned (.int .u32 (Crc.add s b : Int)) ∧ w = w' := by
  have h2 : bits .xor .u32 (s : Int) (b : Int) = ((s ^^^ b : Nat) : Int) := u32_xor_nat s b h (by omega)
  have hx := Crc.xor_lt (a := s) (b := b) h (by omega)
  have H2 := Lib.hid h2; clear h2
  go_enter Tryd.func8, Tryd.ntmps8
  go_wp2
  rw [H2.out]
  go_loop [0, 5, 6] (fun v i _ => ∃ k : Nat, k ≤ 8 ∧ i = .int .i64 k ∧ v = .int .u32 (Crc.shifts k (s ^^^ b) : Nat)) (fun _ i _ => 8 - (intOf i).toNat)
  case atStart => exact ⟨0, by omega, rfl, rfl⟩
  case round =>
    obtain ⟨k, hk, rfl, rfl⟩ := hrel
    have hs := Crc.shifts_lt k hx
    have HE := Lib.hid (Crc.shifts_succ k (s ^^^ b))
    by_cases hlt : k < 8
    · generalize Crc.shifts k (s ^^^ b) = x at *
      have h3 : bits .xor .u32 ((x : Int) / 2) 3988292384 = ((x / 2 ^^^ 3988292384 : Nat) : Int) := by
        have := u32_xor_nat (x / 2) 3988292384 (by omega) (by decide)
        exact this
      have HX := Lib.hid h3
      clear h3
      by_cases ho : x % 2 = 1
      · have ht : ((x : Int) % 2 == 1) = true := by rw [beq_iff_eq]; omega
        have HS := Lib.hid (show Crc.shift x = x / 2 ^^^ 3988292384 by simp [Crc.shift, ho])
        clear ho
        go_wp2
        go_round
        case rel => exact ⟨k + 1, by omega, by go_num, by rw [HE.out, HS.out, HX.out]⟩
        case measure => simp [intOf]; omega
      · have ht : ((x : Int) % 2 == 1) = false := beq_eq_false_iff_ne.2 (by omega)
        have HS := Lib.hid (show Crc.shift x = x / 2 by simp [Crc.shift, ho])
        clear ho
        go_wp2
        go_round
        case rel => exact ⟨k + 1, by omega, by go_num, by rw [HE.out, HS.out]; go_num⟩
        case measure => simp [intOf]; omega
    · have : k = 8 := by omega
      subst this
      go_wp2
      go_ret
      exact ⟨rfl, rfl⟩
theorem refRaw_any (s : Nat) (A : Option Addr) (c n : Nat) (l : List Nat) (w : World) (hs : s < 4294967296) (h : Sq u8v w w.heap.size A l) (hl : ∀ b ∈ l, b < 256) (hn : l.length ≤ 140737488355328) (he : l.length = n) :
    Calls Tryd.prog 17 #[.int .u32 (s : Int), .slice A n c] w fun e w' => e = .returned (.int .u32 ((Crc.raw s l : Nat) : Int)) ∧ w = w' := by
  subst he
  go_enter Tryd.func17, Tryd.ntmps17
  go_wp2
  go_loop [0, 5] (fun v i => ∃ k : Nat, k ≤ l.length ∧ i = .int .i64 k ∧ v = .int .u32 (Crc.raw s (l.take k) : Nat)) (fun _ i => l.length - (intOf i).toNat)
  case atStart => exact ⟨0, by omega, rfl, rfl⟩
  case round =>
    obtain ⟨k, hk, rfl, rfl⟩ := hrel
    have hsl := Crc.raw_lt (s := s) (l.take k) hs (fun b hb => hl b (List.mem_of_mem_take hb))
    by_cases hlt : k < l.length
    · obtain ⟨b, o, x, rfl, _, hx, hc⟩ := h.at_ hlt
      have hxl := hl x (List.mem_of_getElem? hx)
      have HE := Lib.hid (show Crc.raw s (l.take (k + 1)) = Crc.add (Crc.raw s (l.take k)) x by rw [List.take_add_one, hx, Option.toList, Crc.raw_append]; rfl)
      clear hx
      go_wp2_with fail
      refine (refAdd_any _ _ _ hsl hxl).mono ?_
      rintro e_ w_ ⟨rfl, rfl⟩
      go_wp2
      go_round
      case rel => exact ⟨k + 1, by omega, by go_num, by rw [HE.out]⟩
      case measure => simp [intOf]; omega
    · have : k = l.length := by omega
      subst this
      have HE := Lib.hid (show l.take l.length = l from List.take_length)
      go_wp2
      go_ret
      first | exact ⟨rfl, rfl⟩ | (rw [HE.out]; exact ⟨rfl, rfl⟩)
theorem refRaw_lit (A : Option Addr) (c n : Nat) (l : List Nat) (w : World) (h : Sq u8v w w.heap.size A l) (hl : ∀ b ∈ l, b < 256) (hn : l.length ≤ 140737488355328) (he : l.length = n) :
    Calls Tryd.prog 17 #[.int .u32 4294967295, .slice A n c] w fun e w' => e = .returned (.int .u32 ((Crc.raw 4294967295 l : Nat) : Int)) ∧ w = w' :=
  refRaw_any 4294967295 A c n l w (by decide) h hl hn he
theorem refBytes_any (A : Option Addr) (c n : Nat) (l : List Nat) (w : World) (h : Sq u8v w w.heap.size A l) (hl : ∀ b ∈ l, b < 256) (hn : l.length ≤ 140737488355328) (he : l.length = n) :
    Calls Tryd.prog 10 #[.slice A n c] w fun e w' => e = .returned (.int .u32 ((Crc.bytes l : Nat) : Int)) ∧ w = w' := by
  have hR := Crc.raw_lt l (s := 4294967295) (by decide) hl
  have h1 : bits .xor .u32 ((Crc.raw 4294967295 l : Nat) : Int) 4294967295 = ((Crc.bytes l : Nat) : Int) := by
    have h2 := u32_xor_nat (Crc.raw 4294967295 l) 4294967295 hR (by decide)
    rw [Crc.bytes_eq hl, Nat.xor_comm 4294967295]
    exact h2
  have H1 := Lib.hid h1
  clear h1
  go_enter Tryd.func10, Tryd.ntmps10
  go_wp2_with fail
  refine (refRaw_lit A c n l w h hl hn he).mono ?_
  rintro e_ w_ ⟨rfl, rfl⟩
  go_wp2
  go_ret
  exact ⟨ret_int H1.out, rfl⟩
theorem zeros_next (s k : Nat) : Crc.zeros s ((k + 1 : Nat) : Int) = Crc.add (Crc.zeros s (k : Int)) 0 := by
  have h := z_add s k 1
  rw [show ((k + 1 : Nat) : Int) = (k : Int) + ((1 : Nat) : Int) by omega, ← h]
  exact z_one _
theorem refZeros_any (s : Nat) (N : Int) (w : World) (hs : s < 4294967296) (hN : N ≤ 9223372036854775807) :
    Calls Tryd.prog 14 #[.int .u32 (s : Int), .int .i64 N] w fun e w' => e = .returned (.int .u32 ((Crc.zeros s N : Nat) : Int)) ∧ w = w' := by
  go_enter Tryd.func14, Tryd.ntmps14
  go_wp2
  go_loop [0, 5] (fun v i => ∃ k : Nat, k ≤ N.toNat ∧ i = .int .i64 k ∧ v = .int .u32 (Crc.zeros s (k : Int) : Nat)) (fun _ i => N.toNat - (intOf i).toNat)
  case atStart => exact ⟨0, by omega, rfl, rfl⟩
  case round =>
    obtain ⟨k, hk, rfl, rfl⟩ := hrel
    have hsl := Crc.zeros_lt hs (k : Int)
    by_cases hlt : k < N.toNat
    · have hlt2 : (k : Int) < N := by omega
      have HE := Lib.hid (zeros_next s k)
      generalize Crc.zeros s (k : Int) = x at *
      go_wp2_with fail
      refine (refAdd_any x 0 _ hsl (by decide)).mono ?_
      rintro e_ w_ ⟨rfl, rfl⟩
      go_wp2
      go_round
      case rel => exact ⟨k + 1, by omega, by go_num, by rw [HE.out]⟩
      case measure => simp [intOf]; omega
    · have hge : ¬ (k : Int) < N := by omega
      have HE : Hid (Crc.zeros s (k : Int) = Crc.zeros s N) := Lib.hid (by unfold Crc.zeros; rw [show ((k : Int)).toNat = N.toNat by omega])
      go_wp2
      go_ret
      rw [HE.out]
      exact ⟨rfl, rfl⟩
theorem packRegs_snoc (l : List Nat) {k x : Nat} (hx : l[k]? = some x) : packRegs (l.take (k + 1)) = packRegs (l.take k) ++ [x / 256, x % 256] := by
  rw [List.take_add_one, hx, Option.toList, packRegs_append]
  rfl
set_option maxHeartbeats 2000000 in
theorem refWords_any (A : Option Addr) (c : Nat) (l : List Nat) (w : World) (h : Sq u16v w w.heap.size A l) (hl : ∀ b ∈ l, b < 65536) (hn : l.length ≤ 35184372088832) :
    Calls Tryd.prog 12 #[.slice A l.length c] w fun e w' => e = .returned (.int .u32 ((Crc.bytes (packRegs l) : Nat) : Int)) ∧ Below w.heap.size w w' := by
  obtain ⟨i0, hi, hz0, hz1, hz2⟩ := info_parts info_byte
  go_enter Tryd.func12, Tryd.ntmps12
  go_wp2
  go_loopw [3, 4] (fun v i wr => ∃ k M : Nat, ∃ A' c', k ≤ l.length ∧ i = .int .i64 k ∧ M = 2 * k ∧ v = .slice A' M c' ∧ wr.ownsRow w.heap.size 5 1 (.slice A' M c') M ((packRegs (l.take k)).map u8v) ∧ Below w.heap.size w wr)
    (fun _ i _ => l.length - (intOf i).toNat)
  case atStart => exact ⟨0, 0, none, 0, by omega, rfl, rfl, rfl, World.ownsRow_nil _ _ _ _, Below.refl _ _⟩
  case round =>
    obtain ⟨k, M, A', c', hk, rfl, hM, rfl, hown, hbe⟩ := hrel
    by_cases hlt : k < l.length
    · obtain ⟨b, o, x, rfl, hbw, hx, hc0⟩ := h.at_ hlt
      have hsz := hbe.size
      have hc : wr.cell? ⟨b, o + k, none⟩ = some (.int .u16 (x : Int)) := (hbe.cell (p := ⟨b, o + k, none⟩) hbw).trans hc0
      have hxl := hl x (List.mem_of_getElem? hx)
      have e4 : (k : Int) < (l.length : Int) := by omega
      have HS := Lib.hid (packRegs_snoc l hx)
      have HPL : Hid ((packRegs (l.take k)).length = M) := Lib.hid (by rw [packRegs_length, List.length_take, Nat.min_eq_left hk]; omega)
      have HM := Lib.hid hM
      have hM2 : M ≤ 2 * k := by omega
      have HX1 := Lib.hid (show IntKind.u8.wrap (IntKind.u16.wrap ((x : Int) / 256)) = (x : Int) / 256 by simp [IntKind.wrap, IntKind.bits, IntKind.signed]; omega)
      have HX2 := Lib.hid (show IntKind.u8.wrap ((x : Int).tmod 256) = (x : Int) % 256 by rw [Int.tmod_eq_emod_of_nonneg (by omega)]; simp [IntKind.wrap, IntKind.bits, IntKind.signed])
      generalize packRegs (l.take k) = pl at *
      clear hM hx hc0
      go_wp2
      go_region_held3 (fun w' => w'.cell? ⟨b, o + k, none⟩ = some (.int .u16 (x : Int)))
        (first | go_keep | (rw [hb2.cell (p := ⟨b, o + k, none⟩) hbw]; go_keep))
        (first | (refine step_append_sq (f := u8v) _ (by rfl) (.tmp 11) (.tmp 24) 23 (by rfl) (fun _ => rfl) w.heap.size 5 i0 _ _ Tryd.underlying23 hi hz0 rfl hz1 hz2 (by decide) (.slice A' M c') pl (by rfl) (by rw [HPL.out]; exact hown.drew.alloc _) (wr.heap.size + 1) (some ⟨wr.heap.size, 0, none⟩) [x / 256, x % 256] 2 2 rfl (by rfl) (Sq.lits _ _ _ _ _ _ _ (by first | (simp; done) | (simp; omega) | (simp; exact ⟨HX1.out, HX2.out⟩) | (simp [HX1.out, HX2.out]; done)) (by simp) (by simp)) (by simp) (by rw [HPL.out]; omega) (by first | omega | (simp; omega)) ?_; intro B2 c2 W2 hown2 hg2 hb2))
      have hb3 : Below w.heap.size w W2 := (bel_alloc hbe.drew _).trans hb2
      clear hg2 hb2 hown hbe
      try rw [HPL.out]
      go_wp2
      go_roundw
      case rel => exact ⟨k + 1, M + 2, B2, c2, by omega, by go_num, by have := HM.out; omega, by simp, by rw [HS.out]; simpa [HPL.out] using hown2, hb3⟩
      case measure => simp [intOf]; omega
    · obtain rfl : k = l.length := by omega
      rw [List.take_length] at hown
      have HL := Lib.hid (show (packRegs l).length = M by rw [packRegs_length, hM])
      have hpb := packRegs_byte hl
      have hM2 : M ≤ 70368744177664 := by omega
      have hsq : Sq u8v wr wr.heap.size A' (packRegs l) := Sq.of_own hown
      clear hM hown
      go_wp2_with fail
      refine (refBytes_any A' c' M (packRegs l) wr hsq hpb (by rw [HL.out]; omega) HL.out).mono ?_
      rintro e_ w_ ⟨rfl, rfl⟩
      go_wp2
      go_ret
      exact ⟨rfl, hbe⟩

set_option maxRecDepth 100000 in
set_option maxHeartbeats 2000000 in
theorem sumTells_walk (s : Nat) (Ab Al : Option Addr) (b l : List Nat) (cb cl : Nat) (n : Int) (w : World) (hs : s < 4294967296) (sb : Sq u8v w w.heap.size Ab b) (sl : Sq u16v w w.heap.size Al l) (hb : ∀ x ∈ b, x < 256) (hl : ∀ x ∈ l, x < 65536) (lo : -9223372036854775808 ≤ n) (hi : n ≤ 9223372036854775807) (h0 : 0 < w.heap.size) (hT : Tab w) :
    Calls Tryd.prog 3 #[.int .u32 (s : Int), .slice Ab b.length cb, .slice Al l.length cl, .int .i64 n] w fun e w' => e = .returned (.bool true) ∧ Below w.heap.size w w' := by
  by_cases h1 : 500 < b.length
  · have g1 : decide ((500 : Int) < (b.length : Int)) = true := by simp; omega
    go_enter Tryd.func3, Tryd.ntmps3
    go_wp2_with fail
    refine (awake_any _).mono ?_
    rintro e_x1 w_x1 ⟨rfl, hb_x1⟩
    obtain ⟨x1, rfl⟩ := later_is hb_x1
    clear hb_x1
    have hz_x1 := x1.bel.size
    try simp at hz_x1
    go_wp2
    go_ret
    exact ⟨rfl, (by repeat (first | exact Below.refl _ _ | refine bel_later _ ?_ | refine bel_alloc ?_ _ | refine bel_set ?_ (by first | omega | (simp; done) | (simp; omega)) _ | refine Below.drew ?_ | assumption))⟩
  have g1 : decide ((500 : Int) < (b.length : Int)) = false := by simp; omega
  by_cases h2 : 200 < l.length
  · have g2 : decide ((200 : Int) < (l.length : Int)) = true := by simp; omega
    go_enter Tryd.func3, Tryd.ntmps3
    go_wp2_with fail
    refine (awake_any _).mono ?_
    rintro e_x1 w_x1 ⟨rfl, hb_x1⟩
    obtain ⟨x1, rfl⟩ := later_is hb_x1
    clear hb_x1
    have hz_x1 := x1.bel.size
    try simp at hz_x1
    go_wp2
    go_ret
    exact ⟨rfl, (by repeat (first | exact Below.refl _ _ | refine bel_later _ ?_ | refine bel_alloc ?_ _ | refine bel_set ?_ (by first | omega | (simp; done) | (simp; omega)) _ | refine Below.drew ?_ | assumption))⟩
  have g2 : decide ((200 : Int) < (l.length : Int)) = false := by simp; omega
  have HT := Lib.hid hT
  clear hT
  go_enter Tryd.func3, Tryd.ntmps3
  go_wp2
  go_loop [0, 9, 11, 24] (fun v t _ i => ∃ k : Nat, k ≤ b.length ∧ i = .int .i64 k ∧ v = .int .u32 (Crc.raw s (b.take k) : Nat) ∧ t = .int .u32 (Crc.raw s (b.take k) : Nat)) (fun _ _ _ i => b.length - (intOf i).toNat)
  case atStart => exact ⟨0, by omega, rfl, rfl, rfl⟩
  case round =>
    obtain ⟨k, hk, rfl, rfl, rfl⟩ := hrel
    have hsl := Crc.raw_lt (s := s) (b.take k) hs (fun x hx => hb x (List.mem_of_mem_take hx))
    by_cases hlt : k < b.length
    · obtain ⟨bb, o, x, rfl, _, hx, hc⟩ := sb.at_ hlt
      have hxl := hb x (List.mem_of_getElem? hx)
      have HE := Lib.hid (show Crc.raw s (b.take (k + 1)) = Crc.add (Crc.raw s (b.take k)) x by rw [List.take_add_one, hx, Option.toList, Crc.raw_append]; rfl)
      clear hx
      generalize Crc.raw s (b.take k) = R at *
      go_wp2_with fail
      refine (add_any _ _ _ hsl hxl).mono ?_
      rintro e_ w_ ⟨rfl, rfl⟩
      go_wp2_with fail
      refine (refAdd_any _ _ _ hsl hxl).mono ?_
      rintro e_ w_ ⟨rfl, rfl⟩
      go_wp2
      go_round
      case rel => exact ⟨k + 1, by omega, by go_num, by rw [HE.out], by rw [HE.out]⟩
      case measure => simp [intOf]; omega
    · obtain rfl : k = b.length := by omega
      generalize Crc.raw s (b.take b.length) = R at *
      have kb := Lib.hid (bytes_eqs Ab cb b.length _ b w sb hb (by omega) rfl rfl)
      have kr := Lib.hid (refBytes_any Ab cb b.length b w sb hb (by omega) rfl)
      have kw := Lib.hid (words_any Al cl l w sl hl (by omega))
      have kx := Lib.hid (fun (W : World) (h : Below w.heap.size w W) => refWords_any Al cl l W (sl.to h) hl (by omega))
      by_cases h5 : 500 < n
      · have g5 : decide ((500 : Int) < n) = true := by simpa using h5
        obtain ⟨m, hm⟩ : ∃ m : Int, n % 501 = m := ⟨_, rfl⟩
        have hm' : n.tmod 501 = m := by rw [Int.tmod_eq_emod_of_nonneg (by omega)]; exact hm
        have hmi : m ≤ 9223372036854775807 := by omega
        go_wp2_with fail
        refine (kb.out).mono ?_
        rintro e_ w_ ⟨rfl, rfl⟩
        go_wp2_with fail
        refine (kr.out).mono ?_
        rintro e_ w_ ⟨rfl, rfl⟩
        go_wp2_with fail
        refine (kw.out).mono ?_
        rintro e_x1 w_x1 ⟨rfl, hb_x1⟩
        obtain ⟨x1, rfl⟩ := later_is hb_x1
        clear hb_x1
        have hz_x1 := x1.bel.size
        try simp at hz_x1
        go_wp2_with fail
        refine (kx.out _ x1.bel).mono ?_
        rintro e_x2 w_x2 ⟨rfl, hb_x2⟩
        obtain ⟨x2, rfl⟩ := later_is hb_x2
        clear hb_x2
        have hz_x2 := x2.bel.size
        try simp at hz_x2
        have hbe2 : Below w.heap.size w x2.val := bel_later x2 x1.bel
        go_wp2_with fail
        refine (zeros_any R m _ x2.val hsl hmi (Nat.lt_of_lt_of_le h0 hbe2.size) (HT.out.to h0 hbe2) rfl).mono ?_
        rintro e_x3 w_x3 ⟨rfl, hb_x3⟩
        obtain ⟨x3, rfl⟩ := later_is hb_x3
        clear hb_x3
        have hz_x3 := x3.bel.size
        try simp at hz_x3
        go_wp2_with fail
        refine (refZeros_any R m x3.val hsl hmi).mono ?_
        rintro e_ w_ ⟨rfl, rfl⟩
        go_wp2_with fail
        refine (awake_any _).mono ?_
        rintro e_x4 w_x4 ⟨rfl, hb_x4⟩
        obtain ⟨x4, rfl⟩ := later_is hb_x4
        clear hb_x4
        have hz_x4 := x4.bel.size
        try simp at hz_x4
        go_wp2
        go_ret
        exact ⟨rfl, bel_later x4 (bel_later x3 hbe2)⟩
      · have g5 : decide ((500 : Int) < n) = false := by simpa using h5
        obtain ⟨m, rfl⟩ : ∃ m, m = n := ⟨_, rfl⟩
        have hmi := hi
        go_wp2_with fail
        refine (kb.out).mono ?_
        rintro e_ w_ ⟨rfl, rfl⟩
        go_wp2_with fail
        refine (kr.out).mono ?_
        rintro e_ w_ ⟨rfl, rfl⟩
        go_wp2_with fail
        refine (kw.out).mono ?_
        rintro e_x1 w_x1 ⟨rfl, hb_x1⟩
        obtain ⟨x1, rfl⟩ := later_is hb_x1
        clear hb_x1
        have hz_x1 := x1.bel.size
        try simp at hz_x1
        go_wp2_with fail
        refine (kx.out _ x1.bel).mono ?_
        rintro e_x2 w_x2 ⟨rfl, hb_x2⟩
        obtain ⟨x2, rfl⟩ := later_is hb_x2
        clear hb_x2
        have hz_x2 := x2.bel.size
        try simp at hz_x2
        have hbe2 : Below w.heap.size w x2.val := bel_later x2 x1.bel
        go_wp2_with fail
        refine (zeros_any R m _ x2.val hsl hmi (Nat.lt_of_lt_of_le h0 hbe2.size) (HT.out.to h0 hbe2) rfl).mono ?_
        rintro e_x3 w_x3 ⟨rfl, hb_x3⟩
        obtain ⟨x3, rfl⟩ := later_is hb_x3
        clear hb_x3
        have hz_x3 := x3.bel.size
        try simp at hz_x3
        go_wp2_with fail
        refine (refZeros_any R m x3.val hsl hmi).mono ?_
        rintro e_ w_ ⟨rfl, rfl⟩
        go_wp2_with fail
        refine (awake_any _).mono ?_
        rintro e_x4 w_x4 ⟨rfl, hb_x4⟩
        obtain ⟨x4, rfl⟩ := later_is hb_x4
        clear hb_x4
        have hz_x4 := x4.bel.size
        try simp at hz_x4
        go_wp2
        go_ret
        exact ⟨rfl, bel_later x4 (bel_later x3 hbe2)⟩
end Go.Proofs.YthnfigdeppncdaaDoor
