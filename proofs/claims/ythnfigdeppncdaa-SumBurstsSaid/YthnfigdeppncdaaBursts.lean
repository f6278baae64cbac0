/- SumBursts: the walk. -/
import Derived.Test.YthnfigdeppncdaaSumW
import Derived.Test.YthnfigdeppncdaaBurst
import Derived.Test.YthnfigdeppncdaaApp
import Derived.Test.YthnfigdeppncdaaStr
namespace Go.Proofs.Ythnfigdeppncdaa
open Go.RowKit
set_option linter.unusedVariables false

theorem pow_cast (k : Nat) : ((2 : Int) ^ (k % 8) % 256) = ((2 ^ (k % 8) : Nat) : Int) := by
  have h : ∀ j : Fin 8, ((2 : Int) ^ j.val % 256) = ((2 ^ j.val : Nat) : Int) := by decide
  exact h ⟨k % 8, by omega⟩
theorem flip_set {l : List Nat} {k y : Nat} (h : l[k / 8]? = some y) : Crc.flip l k = l.set (k / 8) (y ^^^ 2 ^ (k % 8)) := by
  apply List.ext_getElem?
  intro i
  unfold Crc.flip
  rw [List.getElem?_modify, List.getElem?_set]
  by_cases hi : k / 8 = i
  · subst hi
    rw [h]
    have hlt : k / 8 < l.length := (List.getElem?_eq_some_iff.1 h).1
    simp [hlt]
  · simp [hi]
theorem tb (T k : Nat) (hT : T < 4294967296) : bits .and .u32 ((T : Int) / 2 ^ k) 1 = if T.testBit k = true then 1 else 0 := by
  have h : ((T : Int) / 2 ^ k) = ((T / 2 ^ k : Nat) : Int) := by simp
  rw [h, and1 _ (Nat.lt_of_le_of_lt (Nat.div_le_self _ _) hT), Nat.testBit_eq_decide_div_mod_eq]
  by_cases hc : T / 2 ^ k % 2 = 1
  · simp [hc]
  · rw [if_neg (by simpa using hc)]; omega

set_option maxHeartbeats 1000000 in
theorem bursts_walk (a : Option Addr) (l : List Nat) (ca at_ T : Nat) (w : World) (ha : Nums .u8 w w.heap.size a l)
    (ba : ∀ x ∈ l, x < 256) (na : l.length ≤ ca) (ma : ca ≤ 9223372036854775807) (hat : at_ < 65536) (hT : T < 4294967296) :
    Calls Try.prog 3 #[.slice a l.length ca, .int .u16 (at_ : Int), .int .u32 (T : Int)] w fun e w' => e = .returned (.bool true) ∧ Below w.heap.size w w' := by
  obtain ⟨i0, hi, hz0, hz1, hz2⟩ := info_parts info_byte
  by_cases h5 : 500 < l.length
  · go_enter Try.func3, Try.ntmps3
    go_wp2_with fail
    refine (awake_any _).mono ?_
    rintro e w' ⟨rfl, hb⟩
    go_wp2
    go_ret
    exact ⟨rfl, hb⟩
  by_cases h0 : l.length = 0
  · have h0' : ((l.length : Int) == 0) = true := by rw [h0]; rfl
    clear h0
    go_enter Try.func3, Try.ntmps3
    go_wp2_with fail
    refine (awake_any _).mono ?_
    rintro e w' ⟨rfl, hb⟩
    go_wp2
    go_ret
    exact ⟨rfl, hb⟩
  have h0' : ((l.length : Int) == 0) = false := beq_eq_false_iff_ne.2 (by omega)
  have h5' : decide ((500 : Int) < (l.length : Int)) = false := by simp; omega
  obtain ⟨b, o, x, rfl, hbw, hx, hc0⟩ := ha.at_ (show 0 < l.length by omega)
  go_enter Try.func3, Try.ntmps3
  go_wp2_with (at_builtin; refine wpList_append_nums _ rfl (.tmp 20) (.tmp 21) 22 rfl w.heap.size 5 i0 .u8 1 Try.underlying22 hi hz0 hz1 hz2 (by omega) _ [] rfl (own_empty w _ _) w.heap.size _ l ca rfl (ha.alloc (Nat.le_refl _) _) (by simp) ?c1 ?c2 ?_)
  case c1 => simp; omega
  case c2 => simp
  intro A1 c1 w1 hown hg hb1
  replace hb1 := ((Below.refl _ _).alloc (Nat.le_refl _) _).trans hb1
  clear hg
  have hm : 0 < 8 * (l.length : Int) := by omega
  go_wp2
  obtain ⟨f, hf⟩ : ∃ f : Nat, (f : Int) = (at_ : Int) % (8 * (l.length : Int)) := ⟨((at_ : Int) % (8 * (l.length : Int))).toNat, Int.toNat_of_nonneg (Int.emod_nonneg _ (by omega))⟩
  have hfl : f < 8 * l.length := by have := Int.emod_lt_of_pos (at_ : Int) hm; omega
  rw [← hf]
  clear hf
  obtain ⟨g, rfl, hg0, _⟩ := own_some hown (by omega)
  go_loopw [9, 10, 29] (fun _ _ i wr => ∃ k : Nat, k ≤ 32 ∧ i = .int .i64 k ∧ wr.ownsRow w.heap.size 5 1 (.slice (some ⟨g, 0, none⟩) l.length c1) l.length (vals .u8 (Crc.burst l f T k)) ∧ Below w.heap.size w wr)
    (fun _ _ i _ => 32 - (intOf i).toNat)
  case atStart => exact ⟨0, by omega, rfl, hown, hb1⟩
  case round =>
    clear hown hb1
    obtain ⟨k, hk, rfl, hown, hbe⟩ := hrel
    have htb := tb T k hT
    by_cases hlt : k < 32
    · by_cases hc : T.testBit k = true ∧ f + k < 8 * l.length
      · obtain ⟨hc1, hc2⟩ := hc
        rw [if_pos hc1] at htb
        have HS := Lib.hid (show Crc.burst l f T (k + 1) = Crc.flip (Crc.burst l f T k) (f + k) by rw [Crc.burst, if_pos ⟨hc1, hc2⟩])
        clear hc1
        have hbl := Crc.burst_length l f T k
        obtain ⟨y, hy⟩ : ∃ y, (Crc.burst l f T k)[(f + k) / 8]? = some y := ⟨_, List.getElem?_eq_getElem (by omega)⟩
        have hyl := Crc.burst_byte ba f T k y (List.mem_of_getElem? hy)
        have d0 : wr.cell? ⟨g, (f + k) / 8, none⟩ = some (.int .u8 (y : Int)) := (hown.cellAt _ (by omega)).trans (vals_get hy)
        have f0 := hown.frozenAt ((f + k) / 8)
        have HY := Lib.hid hy
        clear hy hbl
        go_wp2
        go_region
        go_wp2
        go_roundw
        case rel =>
          refine ⟨k + 1, by omega, by go_num, ?_, (hbe.setCell hg0 _).drew⟩
          have hx := Crc.pow_byte (f + k)
          have hs := (hown.stored ((f + k) / 8) (.int .u8 ((y ^^^ 2 ^ ((f + k) % 8) : Nat) : Int))).1
          rw [vals_set, ← flip_set HY.out, ← HS.out] at hs
          have he : bits .xor .u8 (y : Int) (2 ^ ((f + k) % 8) % 256) = ((y ^^^ 2 ^ ((f + k) % 8) : Nat) : Int) := by
            rw [pow_cast]
            exact u8_xor_nat _ _ hyl hx
          rw [he]
          exact hs.drew
        case measure => simp [intOf]; omega
      · have HS := Lib.hid (show Crc.burst l f T (k + 1) = Crc.burst l f T k by rw [Crc.burst, if_neg hc])
        by_cases h1 : T.testBit k = true
        · rw [if_pos h1] at htb
          have h2 : ¬ f + k < 8 * l.length := fun h => hc ⟨h1, h⟩
          clear hc h1
          go_wp2
          go_roundw
          case rel => exact ⟨k + 1, by omega, by go_num, by rw [HS.out]; exact hown, hbe⟩
          case measure => simp [intOf]; omega
        · rw [if_neg h1] at htb
          clear hc h1
          go_wp2
          go_roundw
          case rel => exact ⟨k + 1, by omega, by go_num, by rw [HS.out]; exact hown, hbe⟩
          case measure => simp [intOf]; omega
    · obtain rfl : k = 32 := by omega
      clear htb hm
      have hA := (ha.below hbe).more hbe.size
      have hC := Nums.of_own hown
      have bc := Crc.burst_byte ba f T 32
      have lc := Crc.burst_length l f T 32
      have hlaw := Crc.burst_tells ba f T hfl
      generalize Crc.burst l f T 32 = m at *
      have cA := fun (x : Later wr.heap.size wr) => later_same (x := x) (bytes_n (some ⟨b, o, none⟩) ca l.length _ _ _ (hA.below x.bel) ba (by omega) rfl)
      have cC := fun (x : Later wr.heap.size wr) => later_same (x := x) (bytes_n (some ⟨g, 0, none⟩) c1 l.length _ _ _ (hC.below x.bel) bc (by omega) lc)
      have cW := fun (x : Later wr.heap.size wr) => later_of (x := x) (Nat.le_refl _) (awake_any x.val)
      have sA := fun (x : Later wr.heap.size wr) => conv_nums (P := Try.prog) (hA.below x.bel) 22 9 5 ca l.length Try.underlying22 Try.underlying5 Try.underlying9 rfl
      have sC := fun (x : Later wr.heap.size wr) => conv_nums (P := Try.prog) (hC.below x.bel) 22 9 5 c1 l.length Try.underlying22 Try.underlying5 Try.underlying9 lc
      have hne : ¬ m = l → _ := fun h => str_ne ba bc (fun e => h e.symm)
      have kk := Lib.hid cA; have kc := Lib.hid cC; have kw := Lib.hid cW
      clear cA cC cW hA hC hown lc bc
      by_cases hcm : m = l
      · subst hcm
        clear hne hlaw
        go_wp2
        refine wp_region_later wr.heap.size (by kernel_rfl) (by kernel_rfl) ?_
        repeat (go_big_quiet_step (fail))
        go_big_quiet_step (exact kk.out _)
        repeat (go_big_quiet_step (fail))
        go_big_quiet_step (exact kc.out _)
        repeat (go_big_quiet_step (fail))
        go_big_quiet_step (exact kw.out _)
        repeat (go_big_quiet_step (fail))
        refine wpQuiet_nil ?_
        rintro _ ⟨x, rfl⟩
        have hbx := below_step hbe (Nat.le_refl _) x.bel
        go_wp2
        go_ret
        exact ⟨rfl, hbx⟩
      · have e1 : ((Crc.bytes l : Int) != (Crc.bytes m : Int)) = true := by rw [bne_iff_ne]; intro h; exact hcm (hlaw (by omega))
        have e2 := hne hcm
        clear hne hlaw
        generalize Crc.bytes l = pl at *
        generalize Crc.bytes m = pm at *
        go_wp2
        refine wp_region_later wr.heap.size (by kernel_rfl) (by kernel_rfl) ?_
        repeat (go_big_quiet_step (fail))
        go_big_quiet_step (exact kk.out _)
        repeat (go_big_quiet_step (fail))
        go_big_quiet_step (exact kc.out _)
        repeat (go_big_quiet_step (fail))
        go_big_quiet_step (exact kw.out _)
        repeat (go_big_quiet_step (fail))
        refine wpQuiet_nil ?_
        rintro _ ⟨x, rfl⟩
        have hbx := below_step hbe (Nat.le_refl _) x.bel
        go_wp2
        go_ret
        exact ⟨rfl, hbx⟩
end Go.Proofs.Ythnfigdeppncdaa
