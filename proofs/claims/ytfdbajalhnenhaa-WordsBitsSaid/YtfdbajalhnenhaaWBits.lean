/- WordsBits: the walk. -/
import Derived.Test.YtfdbajalhnenhaaWAdd
import Derived.Test.YtfdbajalhnenhaaOneLaw
namespace Go.Proofs.Ytfdbajalhnenhaa
open Go.RowKit
set_option linter.unusedVariables false
attribute [local go_sem] Later.cell Later.frozen setCell_twice
theorem packBits_oeq (A : Option Addr) (c m : Nat) (l : List Bool) (r : List Nat) (w : World) (hm : l.length = m) (h : Sq Value.bool w w.heap.size A l) (hn : l.length ≤ 35184372088832) (he : Bt.packBits l = r) :
    Calls Try.prog 14 #[.slice A m c] w (GivesO u8v 5 w r) := by subst hm he; exact packBits_own A c l w h hn
theorem bits_neg (A : Option Addr) (c m : Nat) (n : Int) (w : World) (hn : n < 0) :
    Calls Try.prog 11 #[.slice A m c, .int .i64 n] w fun e w' => e = .returned (.slice none 0 0) ∧ Below w.heap.size w w' := by
  go_enter Try.func11, Try.ntmps11
  go_wp2
  go_ret
  exact ⟨rfl, (by repeat (first | exact Below.refl _ _ | refine bel_later _ ?_ | refine bel_alloc ?_ _ | refine bel_set ?_ (by first | omega | (simp; done) | (simp; omega)) _ | refine Below.drew ?_ | assumption))⟩

set_option maxRecDepth 100000 in
set_option maxHeartbeats 4000000 in
theorem wordsBits_walk (ma at_ be : Nat) (w : World) (hma : ma < 256) (hat : at_ < 256) (hbe : be < 256) :
    Calls Try.prog 5 #[.int .u8 (ma : Int), .int .u8 (at_ : Int), .int .u8 (be : Int)] w fun e w' => e = .returned (.bool true) ∧ Below w.heap.size w w' := by
  obtain ⟨i0, hi, hz0, hz1, hz2⟩ := info_parts info_bool
  obtain ⟨j0, hj, hy0, hy1, hy2⟩ := info_parts info_byte
  obtain ⟨n, hn⟩ : ∃ n : Nat, 1 + (ma : Int) % 200 = (n : Int) := ⟨1 + ma % 200, by omega⟩
  have hn1 : 1 ≤ n ∧ n ≤ 200 := by omega
  obtain ⟨k, hk⟩ : ∃ k : Nat, (at_ : Int) % (n : Int) = (k : Int) := ⟨at_ % n, by simp⟩
  have hkn : k < n := by have := Int.emod_lt_of_pos (at_ : Int) (show 0 < (n : Int) by omega); omega
  have hln := Bt.one_length n k
  have HLN := Lib.hid hln
  have HONE := Lib.hid (fun i => Bt.one_byte hkn i)
  clear hln
  have e1 : (k : Int) < (n : Int) := by omega
  go_enter Try.func5, Try.ntmps5
  go_wp2_with (at_make; refine wpList_make_full _ rfl _ _ 23 rfl w.heap.size 4 i0 (.bool false) 1 Try.underlying23 hi hz0 hz1 _ _ _ _ n rfl rfl rfl rfl ?c1 ?c2 ?c3 ?_)
  case c1 => rw [hz2]; omega
  case c2 => unfold maxLen; omega
  case c3 => exact Nat.le_refl _
  intro w1 hown hg
  have hb1 : Below w.heap.size w w1 := (Below.refl _ _).grown hg (Nat.le_refl _) (by simp)
  rw [made_map Value.bool false n] at hown
  have d0 : w1.cell? ⟨w.heap.size, k, none⟩ = some (.bool false) := (hown.cellAt _ (by omega)).trans (by simp [hkn])
  have f0 := hown.frozenAt k
  clear hg
  go_wp2_with fail
  obtain ⟨W2, hW2⟩ : ∃ W2, W2 = w1.setCell ⟨w.heap.size, k, none⟩ (.bool true) := ⟨_, rfl⟩
  have hown2 : W2.ownsRow w.heap.size 4 1 (.slice (some ⟨w.heap.size, 0, none⟩) n n) n ((Bt.one n k).map Value.bool) := by
    rw [hW2]
    have hs := (hown.stored k (.bool true)).1
    rw [← List.map_set] at hs
    exact hs
  have hbel2 : Below w.heap.size w W2 := by rw [hW2]; exact hb1.setCell (Nat.le_refl _) _
  rw [← hW2]
  have hs2 : Sq Value.bool W2 W2.heap.size (some ⟨w.heap.size, 0, none⟩) (Bt.one n k) := Sq.of_own hown2
  clear hW2 hown hown2 hb1 d0 f0
  refine (packBits_oeq _ _ n (Bt.one n k) (Bt.packBits (Bt.one n k)) _ HLN.out hs2 (by rw [HLN.out]; omega) rfl).mono ?_
  rintro e3 w3 ⟨A3, c3, rfl, hown3, hb3⟩
  obtain ⟨x3, rfl⟩ := later_is hb3
  have hz3 := x3.bel.size
  obtain ⟨N, hN⟩ : ∃ N, N = Bt.many n := ⟨_, rfl⟩
  have hPN : (Bt.packBits (Bt.one n k)).length = N := by rw [Bt.packBits_length, HLN.out, hN]
  have hN1 : 8 * N < n + 8 ∧ n ≤ 8 * N := by rw [hN]; unfold Bt.many; omega
  rw [hPN] at hown3 ⊢
  have hPg : ∀ i, i < N → (Bt.packBits (Bt.one n k))[i]? = some (if i = k / 8 then 2 ^ (k % 8) else 0) := fun i hi => by
    unfold Bt.packBits
    rw [HLN.out, ← hN, Bt.packN_get _ hi, HONE.out i]
  have HPG := Lib.hid hPg
  have HN := Lib.hid hN
  have HPN := Lib.hid hPN
  have hs3 : Sq u8v x3.val x3.val.heap.size A3 (Bt.packBits (Bt.one n k)) := Sq.of_own hown3
  have hbel3 : Below w.heap.size w x3.val := (by repeat (first | exact Below.refl _ _ | refine bel_later _ ?_ | refine bel_alloc ?_ _ | refine bel_set ?_ (by first | omega | (simp; done) | (simp; omega)) _ | refine Below.drew ?_ | assumption))
  have t1 : ((N : Int) != ((n : Int) + 7) / 8) = false := by rw [bne_eq_false_iff_eq]; omega
  clear hb3 hs2 hN hPN hPg
  go_wp2
  go_loop [40] (fun i => ∃ j : Nat, j ≤ N ∧ i = .int .i64 j) (fun i => N - (intOf i).toNat)
  case atStart => exact ⟨0, by omega, rfl⟩
  case round =>
    obtain ⟨j, hjN, rfl⟩ := hrel
    by_cases hlt : j < N
    · obtain ⟨b2, o2, y, rfl, hbw2, hy, hc2⟩ := hs3.at_ (show j < (Bt.packBits (Bt.one n k)).length by rw [HPN.out]; exact hlt)
      rw [HPG.out j hlt] at hy
      have e4 : (j : Int) < (N : Int) := by omega
      by_cases hjk : j = k / 8
      · rw [if_pos hjk] at hy
        have hyv : y = 2 ^ (k % 8) := by simpa using hy.symm
        have u1 : ((j : Int) == (k : Int) / 8) = true := by rw [beq_iff_eq]; omega
        have u2 : ((y : Int) != 2 ^ (k % 8) % 256) = false := by rw [bne_eq_false_iff_eq, pow8, hyv]
        clear hy hyv hjk
        go_wp2
        go_round
        case rel => exact ⟨j + 1, by omega, by go_num⟩
        case measure => simp [intOf]; omega
      · rw [if_neg hjk] at hy
        obtain rfl : y = 0 := by simpa using hy.symm
        have u1 : ((j : Int) == (k : Int) / 8) = false := beq_eq_false_iff_ne.2 (by omega)
        clear hy hjk
        go_wp2
        go_round
        case rel => exact ⟨j + 1, by omega, by go_num⟩
        case measure => simp [intOf]; omega
    · obtain rfl : j = N := by omega
      clear hlt hjN
      obtain ⟨fr, hfr⟩ : ∃ fr : Nat, 8 * (j : Int) - (n : Int) = (fr : Int) := ⟨8 * j - n, by omega⟩
      have kend := Lib.hid (fun (A : Option Addr) (c : Nat) (W : World) (s : Sq u8v W W.heap.size A (Bt.packBits (Bt.one n k) ++ [0])) => bits_eq A c (j + 1) (Bt.packBits (Bt.one n k) ++ [0]) (n : Int) [] W (by simp [HPN.out]) s (by intro x hx; rcases List.mem_append.1 hx with h | h; exact Bt.packBits_byte _ x h; simp at h; omega) (by simp [HPN.out]; omega) (by omega) (by
        unfold Bt.bits
        rw [if_neg]
        rintro ⟨_, h⟩
        rw [Int.toNat_natCast, Bt.snoc_no _ (by rw [HPN.out]; omega)] at h
        cases h))
      by_cases hf0 : fr = 0
      · subst hf0
        go_wp2_with (at_builtin; refine wpList_append_sq (f := u8v) _ rfl (.tmp 97) (.tmp 98) 22 rfl (fun _ => rfl) W2.heap.size 5 j0 _ _ Try.underlying22 hj hy0 rfl hy1 hy2 (by decide) (.slice A3 j c3) (Bt.packBits (Bt.one n k)) rfl (by rw [HPN.out]; exact (hown3).alloc _) (x3.val.heap.size + 1) _ [0] 1 1 rfl rfl (Sq.lits _ _ _ _ _ _ _ rfl (by simp) (by simp)) (by simp) ?r1x3 ?r2x3 ?_)
        case r1x3 => rw [HPN.out]; omega
        case r2x3 => have := (Below.refl x3.val.heap.size x3.val).size; first | omega | (simp; omega)
        intro A8 c8 w8 hown8 hg8 hb8
        have hb9 : Below w.heap.size w w8 := (bel_alloc (hbel3.trans ((Below.refl x3.val.heap.size x3.val).mono hbel3.size)) _).trans (hb8.mono hbel2.size)
        have s8 : Sq u8v w8 w8.heap.size A8 (Bt.packBits (Bt.one n k) ++ [0]) := Sq.of_own (n := j + 1) (c := c8) (base := W2.heap.size) (e := 5) (by simpa [HPN.out] using hown8)
        clear hown8 hg8 hb8
        try rw [HPN.out]
        go_wp2_with fail
        refine (kend.out _ _ _ s8).mono ?_
        rintro e_x9 w_x9 ⟨Ax9, cx9, rfl, sx9, nx9, mx9, hb_x9⟩
        obtain ⟨x9, rfl⟩ := later_is hb_x9
        clear hb_x9
        have hz_x9 := x9.bel.size
        try simp at hz_x9
        go_wp2_with fail
        refine (bits_neg _ _ _ (-1) _ (by decide)).mono ?_
        rintro e_x10 w_x10 ⟨rfl, hb_x10⟩
        obtain ⟨x10, rfl⟩ := later_is hb_x10
        clear hb_x10
        have hz_x10 := x10.bel.size
        try simp at hz_x10
        go_wp2_with fail
        refine (awake_any _).mono ?_
        rintro e_x11 w_x11 ⟨rfl, hb_x11⟩
        obtain ⟨x11, rfl⟩ := later_is hb_x11
        clear hb_x11
        have hz_x11 := x11.bel.size
        try simp at hz_x11
        go_wp2
        go_ret
        exact ⟨rfl, bel_later x11 (bel_later x10 (bel_later x9 hb9))⟩
      · have u5 : decide (0 < fr) = true := decide_eq_true (by omega)
        obtain ⟨q, hq⟩ : ∃ q : Nat, (be : Int) % (fr : Int) = (q : Int) := ⟨be % fr, by simp⟩
        have hqf : q < fr := by have := Int.emod_lt_of_pos (be : Int) (show 0 < (fr : Int) by omega); omega
        obtain ⟨a, ha⟩ : ∃ a : Nat, (n : Int) + (q : Int) = (a : Int) := ⟨n + q, by omega⟩
        have ha1 : n ≤ a := by omega
        have ha2 : a < 8 * j := by omega
        have hm2 : a < 8 * Bt.many (Bt.one n k).length := by rw [HLN.out, ← HN.out]; exact ha2
        have hm1 : (Bt.one n k).length ≤ a := by rw [HLN.out]; exact ha1
        have HNO := Lib.hid (Bt.more_no hm1 hm2)
        have HYES := Lib.hid (Bt.more_yes hm1 hm2)
        have HML : Hid ((Bt.more (Bt.one n k) a).length = j) := Lib.hid (by rw [Bt.more_length, HLN.out, ← HN.out])
        have HY : Hid ((Bt.packBits (Bt.one n k))[a / 8]? = some (Bt.byteOf (Bt.one n k) (a / 8))) := Lib.hid (by rw [HPG.out _ (by omega), HONE.out])
        have hyl := Bt.byteOf_lt (Bt.one n k) (a / 8)
        have kno := Lib.hid (fun (A : Option Addr) (c : Nat) (W : World) (s : Sq u8v W W.heap.size A (Bt.more (Bt.one n k) a)) => bits_eq A c j (Bt.more (Bt.one n k) a) (n : Int) [] W HML.out s (Bt.more_byte _ _) (by rw [HML.out]; omega) (by omega) (by
          unfold Bt.bits
          rw [if_neg]
          rintro ⟨_, h⟩
          rw [Int.toNat_natCast] at h
          have h2 := HNO.out
          rw [HLN.out] at h2
          rw [h2] at h
          cases h))
        have kyes := Lib.hid (fun (A : Option Addr) (c : Nat) (W : World) (s : Sq u8v W W.heap.size A (Bt.more (Bt.one n k) a)) => bits_eq A c j (Bt.more (Bt.one n k) a) ((a : Int) + 1) (Bt.bitsOf (Bt.more (Bt.one n k) a) (a + 1)) W HML.out s (Bt.more_byte _ _) (by rw [HML.out]; omega) (by omega) (by
          unfold Bt.bits
          rw [show ((a : Int) + 1).toNat = a + 1 by omega, if_pos ⟨by omega, HYES.out⟩]))
        have HBL := Lib.hid (Bt.bitsOf_length (Bt.more (Bt.one n k) a) (a + 1))
        have HMO := Lib.hid (show Bt.more (Bt.one n k) a = (Bt.packBits (Bt.one n k)).set (a / 8) (Bt.byteOf (Bt.one n k) (a / 8) ||| 2 ^ (a % 8)) from rfl)
        generalize Bt.more (Bt.one n k) a = mo at *
        generalize Bt.bitsOf mo (a + 1) = bo at *
        generalize Bt.byteOf (Bt.one n k) (a / 8) = y at *
        clear hf0 hm1 hm2 HNO HYES
        go_wp2_with (at_builtin; refine wpList_append_sq (f := u8v) _ rfl (.tmp 63) (.tmp 64) 22 rfl (fun _ => rfl) x3.val.heap.size 5 j0 _ _ Try.underlying22 hj hy0 rfl hy1 hy2 (by decide) _ [] rfl (own_sq_empty u8v x3.val _ _ _ (by simp) (by simp)) x3.val.heap.size A3 (Bt.packBits (Bt.one n k)) c3 j HPN.out rfl (hs3.alloc (Nat.le_refl _) _) (own_nil_c hown3).1 ?d1 (by simp) ?_)
        case d1 => first | omega | (simp; omega)
        intro A4 c4 w4 hown4 hg4 hb4
        have hb34 : Below x3.val.heap.size x3.val w4 := ((Below.refl _ _).alloc (Nat.le_refl _) _).trans hb4
        have hown4' : w4.ownsRow x3.val.heap.size 5 1 (.slice A4 j c4) j ((Bt.packBits (Bt.one n k)).map u8v) := by
          have h := hown4
          simp only [HPN.out] at h
          exact h
        clear hg4 hb4 hown4
        try rw [HPN.out]
        obtain ⟨g, rfl, hg1, hg2⟩ := own_some hown4' (by omega)
        have d0 : w4.cell? ⟨g, a / 8, none⟩ = some (.int .u8 (y : Int)) := (hown4'.cellAt _ (by omega)).trans (map_get HY.out)
        have f0 := hown4'.frozenAt (a / 8)
        have e5 : (a : Int) / 8 < (j : Int) := by omega
        have e6 : (0 : Int) ≤ (a : Int) / 8 := by omega
        go_wp2
        go_region
        obtain ⟨W5, hW5⟩ : ∃ W5, W5 = (w4.setCell ⟨g, a / 8, none⟩ (.int .u8 (bits .or .u8 (y : Int) (2 ^ (a % 8) % 256)))).drew := ⟨_, rfl⟩
        have hown5 : W5.ownsRow x3.val.heap.size 5 1 (.slice (some ⟨g, 0, none⟩) j c4) j (mo.map u8v) := by
          have hs := (hown4'.stored (a / 8) (.int .u8 ((y ||| 2 ^ (a % 8) : Nat) : Int))).1
          have he : bits .or .u8 (y : Int) (2 ^ (a % 8) % 256) = ((y ||| 2 ^ (a % 8) : Nat) : Int) := by
            rw [pow8]
            exact u8_or_nat _ _ hyl (pow8_lt a)
          rw [hW5, he, HMO.out, List.map_set]
          exact hs.drew
        have hb35 : Below x3.val.heap.size x3.val W5 := by rw [hW5]; exact (hb34.setCell hg1 _).drew
        rw [← hW5]
        have s5 : Sq u8v W5 W5.heap.size (some ⟨g, 0, none⟩) mo := Sq.of_own hown5
        clear hW5 hown4' hb34 d0 f0 hown5
        go_wp2_with fail
        refine (kno.out _ _ _ s5).mono ?_
        rintro e_x6 w_x6 ⟨Ax6, cx6, rfl, sx6, nx6, mx6, hb_x6⟩
        obtain ⟨x6, rfl⟩ := later_is hb_x6
        clear hb_x6
        have hz_x6 := x6.bel.size
        try simp at hz_x6
        go_wp2_with fail
        refine (kyes.out _ _ _ (s5.to (by repeat (first | exact Below.refl _ _ | refine bel_later _ ?_ | refine bel_alloc ?_ _ | refine bel_set ?_ (by first | omega | (simp; done) | (simp; omega)) _ | refine Below.drew ?_ | assumption)))).mono ?_
        rintro e_x7 w_x7 ⟨Ax7, cx7, rfl, sx7, nx7, mx7, hb_x7⟩
        obtain ⟨x7, rfl⟩ := later_is hb_x7
        clear hb_x7
        have hz_x7 := x7.bel.size
        try simp at hz_x7
        have u6 : ((bo.length : Int) != (a : Int) + 1) = false := by rw [bne_eq_false_iff_eq]; have := HBL.out; omega
        have hb37 : Below x3.val.heap.size x3.val x7.val := bel_later x7 (bel_later x6 hb35)
        go_wp2_with (at_builtin; refine wpList_append_sq (f := u8v) _ rfl (.tmp 97) (.tmp 98) 22 rfl (fun _ => rfl) W2.heap.size 5 j0 _ _ Try.underlying22 hj hy0 rfl hy1 hy2 (by decide) (.slice A3 j c3) (Bt.packBits (Bt.one n k)) rfl (by rw [HPN.out]; exact ((own_keep hown3 hb37)).alloc _) (x7.val.heap.size + 1) _ [0] 1 1 rfl rfl (Sq.lits _ _ _ _ _ _ _ rfl (by simp) (by simp)) (by simp) ?r1x7 ?r2x7 ?_)
        case r1x7 => rw [HPN.out]; omega
        case r2x7 => have := hb37.size; first | omega | (simp; omega)
        intro A8 c8 w8 hown8 hg8 hb8
        have hb9 : Below w.heap.size w w8 := (bel_alloc (hbel3.trans (hb37.mono hbel3.size)) _).trans (hb8.mono hbel2.size)
        have s8 : Sq u8v w8 w8.heap.size A8 (Bt.packBits (Bt.one n k) ++ [0]) := Sq.of_own (n := j + 1) (c := c8) (base := W2.heap.size) (e := 5) (by simpa [HPN.out] using hown8)
        clear hown8 hg8 hb8
        try rw [HPN.out]
        go_wp2_with fail
        refine (kend.out _ _ _ s8).mono ?_
        rintro e_x9 w_x9 ⟨Ax9, cx9, rfl, sx9, nx9, mx9, hb_x9⟩
        obtain ⟨x9, rfl⟩ := later_is hb_x9
        clear hb_x9
        have hz_x9 := x9.bel.size
        try simp at hz_x9
        go_wp2_with fail
        refine (bits_neg _ _ _ (-1) _ (by decide)).mono ?_
        rintro e_x10 w_x10 ⟨rfl, hb_x10⟩
        obtain ⟨x10, rfl⟩ := later_is hb_x10
        clear hb_x10
        have hz_x10 := x10.bel.size
        try simp at hz_x10
        go_wp2_with fail
        refine (awake_any _).mono ?_
        rintro e_x11 w_x11 ⟨rfl, hb_x11⟩
        obtain ⟨x11, rfl⟩ := later_is hb_x11
        clear hb_x11
        have hz_x11 := x11.bel.size
        try simp at hz_x11
        go_wp2
        go_ret
        exact ⟨rfl, bel_later x11 (bel_later x10 (bel_later x9 hb9))⟩
end Go.Proofs.Ytfdbajalhnenhaa
