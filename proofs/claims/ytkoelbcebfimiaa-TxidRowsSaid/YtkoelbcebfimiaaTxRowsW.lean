/- TxidRows: the walk. -/
import Derived.Test.YtkoelbcebfimiaaTxAwake
import Derived.Test.YtkoelbcebfimiaaBox2
namespace Go.Proofs.Ytkoelbcebfimiaa
open Go.RowKit
set_option linter.unusedVariables false
attribute [local go_sem] Later.cell Later.frozen setCell_twice

theorem need_top (e : Nat) (w : World) (he : e < 4294967296) :
    Calls Try.prog 6 #[.agg #[.int .u32 4294967295, .int .u32 (e : Int)]] w fun en w' => en = .returned (.tuple #[.agg #[.int .u8 0, .int .u32 0, .int .u8 0, .bool false, .slice none 0 0], .bool false]) ∧ Below w.heap.size w w' := by
  have h := need_no 4294967295 e w (by decide) he (.inr rfl)
  rw [show ((4294967295 : Nat) : Int) = 4294967295 from rfl] at h
  exact h
set_option maxRecDepth 100000 in
set_option maxHeartbeats 4000000 in
theorem txidRows_walk (fi ma : Nat) (w : World) (hfi : fi < 4294967296) (hma : ma < 256) :
    Calls Try.prog 3 #[.int .u32 (fi : Int), .int .u8 (ma : Int)] w fun e w' => e = .returned (.bool true) ∧ Below w.heap.size w w' := by
  obtain ⟨bg, hbg⟩ : ∃ bg, bg = max fi 1 := ⟨_, rfl⟩
  have hmax : ∀ w, (Builtin.max_ #[22, 22] 22 #[.int .u32 (fi : Int), .int .u32 1]).run Try.prog w = .ok (.int .u32 (bg : Int)) w := fun w => run_max2 w _ _ fi 1 bg hbg
  have hb1 : 1 ≤ bg ∧ bg ≤ 4294967295 := by omega
  have hgr : bg = max (Tx.gr ([(⟨1, fi, 0, false, none, 0, 0⟩ : Rec)].map Rec.nums)) 1 := by
    simp only [List.map_cons, List.map_nil, Tx.gr, List.foldl_cons, List.foldl_nil, Rec.nums, Tx.most]
    by_cases h : 0 < fi
    · rw [if_pos ⟨trivial, h⟩]; exact hbg
    · rw [if_neg (fun c => h c.2)]; omega
  have ko := Lib.hid (fun (w : World) (n B : Nat) (hn : n = w.heap.size) (hB : n < B) (h : B = w.heap.size + 1) => open_any (some ⟨n, 0, none⟩) [(⟨1, fi, 0, false, none, 0, 0⟩ : Rec)] 1 bg (w.alloc (.cells #[.int .u8 1, .int .u32 (fi : Int), .int .u8 0, .bool false, .slice none 0 0] 28)) (Recs.one w ⟨1, fi, 0, false, none, 0, 0⟩ 28 n _ hn (by simp [hn])) (by intro r hr; simp at hr; subst hr; exact ⟨by simp, hfi, by simp⟩) (by simp) hgr)
  obtain ⟨N, hN⟩ : ∃ N : Nat, (N : Int) = (ma : Int) % 101 := ⟨ma % 101, by simp⟩
  have HN := Lib.hid hN
  have hN1 : N ≤ 100 := by omega
  clear hN hgr hbg
  go_enter Try.func3, Try.ntmps3
  go_wp2_with fail
  refine (ko.out w w.heap.size _ rfl (Nat.lt_succ_self _) rfl).mono ?_
  rintro e w1 ⟨rfl, hb⟩
  obtain ⟨x1, rfl⟩ := later_is hb
  clear hb ko
  have hz1 := x1.bel.size
  simp at hz1
  go_wp2
  rw [← HN.out]
  clear HN hmax
  obtain ⟨W2, hW2⟩ : ∃ W2, W2 = x1.val.alloc (.cells #[.int .u32 (bg : Int), .int .u32 (bg : Int)] 24) := ⟨_, rfl⟩
  have hbel2 : Below w.heap.size w W2 := by rw [hW2]; exact (by repeat (first | exact Below.refl _ _ | refine bel_later _ ?_ | refine bel_alloc ?_ _ | refine bel_set ?_ (by first | omega | (simp; done) | (simp; omega)) _ | refine Below.drew ?_ | assumption))
  have hbox2 : Box2 W2 x1.val.heap.size (.int .u32 (bg : Int)) (.int .u32 (bg : Int)) := by rw [hW2]; exact Box2.new _ _ _ _
  rw [← hW2]
  clear hW2
  have hpb : w.heap.size ≤ x1.val.heap.size := by omega
  generalize x1.val.heap.size = p at *
  clear hz1 x1
  go_loopw [33] (fun i wr => ∃ j n e : Nat, j ≤ N ∧ i = .int .i64 j ∧ n = bg + j ∧ e = Tx.endAt bg j ∧ n ≤ 4294967295 ∧ Box2 wr p (.int .u32 (n : Int)) (.int .u32 (e : Int)) ∧ Below w.heap.size w wr) (fun i _ => N - (intOf i).toNat)
  case atStart => exact ⟨0, bg, bg, by omega, rfl, rfl, rfl, by omega, hbox2, hbel2⟩
  case round =>
    clear hbox2 hbel2
    obtain ⟨j, n, e, hj, rfl, hn, he, hnt, hbox, hbel⟩ := hrel
    have HE := Lib.hid he
    clear he
    obtain ⟨c0, c1, f0, f1⟩ := hbox
    have hbw : p < wr.heap.size := block_lt_of_cell c0
    by_cases hlt : j < N
    · by_cases hM : n = 4294967295
      · subst hM
        rw [show ((4294967295 : Nat) : Int) = 4294967295 from rfl] at c0
        have HT := Lib.hid hn
        have hw : decide ((bg : Int) + (j : Int) < 4294967295) = false := by simp; omega
        have hw2 : decide ((4294967295 : Int) ≤ (bg : Int) + (j : Int)) = true := by simp; omega
        have he : e < 4294967296 := by
          rw [HE.out]
          by_cases hc : j % 16 = 0
          · rw [Tx.endAt_here hc]; omega
          · unfold Tx.endAt; rw [if_neg hc]; omega
        have kn := Lib.hid (fun w => need_top e w he)
        clear hn hnt
        by_cases hc : j % 16 = 0
        all_goals
          first | (have hc' : ((j : Int) % 16 == 0) = true := by rw [beq_iff_eq]; omega) | (have hc' : ((j : Int) % 16 == 0) = false := beq_eq_false_iff_ne.2 (by omega))
          clear hc
          go_wp2_with fail
          refine (kn.out _).mono ?_
          rintro e1 w2 ⟨rfl, hb2⟩
          obtain ⟨y1, rfl⟩ := later_is hb2
          have c0 := y1.keep c0
          have c1 := y1.keep c1
          have lb1 : p < y1.val.heap.size := block_lt_of_cell c0
          clear hb2
          go_wp2_with fail
          refine (tx_take_spent e _).mono ?_
          rintro e1 w2 ⟨rfl, hb2⟩
          obtain ⟨y2, rfl⟩ := later_is hb2
          have hz2 := y2.bel.size
          simp at hz2
          have c0 := y2.keep (keep_alloc c0)
          have c1 := y2.keep (keep_alloc c1)
          have lb2 : p < y2.val.heap.size := block_lt_of_cell c0
          clear hb2
          go_wp2_with fail
          refine (awake_any _).mono ?_
          rintro e1 w2 ⟨rfl, hb2⟩
          obtain ⟨y3, rfl⟩ := later_is hb2
          clear hb2
          go_wp2
          go_ret
          exact ⟨rfl, (by repeat (first | exact Below.refl _ _ | refine bel_later _ ?_ | refine bel_alloc ?_ _ | refine bel_set ?_ (by first | omega | (simp; done) | (simp; omega)) _ | refine Below.drew ?_ | assumption))⟩
      · have hn1 : n < 4294967295 := by omega
        have hw : decide ((bg : Int) + (j : Int) < 4294967295) = true := by simp; omega
        have hw2 : decide ((4294967295 : Int) ≤ (bg : Int) + (j : Int)) = false := by simp; omega
        have hw3 : ((n : Int) != (bg : Int) + (j : Int)) = false := by rw [bne_eq_false_iff_eq]; omega
        have HT := Lib.hid hn
        have hnx := Tx.endAt_next (b := bg) (i := j) (by omega)
        have e4 : (j : Int) < (N : Int) := by omega
        have e5 : (bg : Int) + (j : Int) < 4294967295 := by omega
        by_cases hc : j % 16 = 0
        · have hen : e = n := by rw [HE.out, Tx.endAt_here hc]; omega
          subst hen
          rw [if_pos hc, ← hn] at hnx
          have HX := Lib.hid hnx
          obtain ⟨m, hm⟩ : ∃ m, m = min (e + 16) 4294967295 := ⟨_, rfl⟩
          have hm1 : e < m := by omega
          have hm2 : m ≤ 4294967295 := by omega
          have kn := Lib.hid (fun w => need_yes e w hn1 m hm)
          have kr := Lib.hid (fun w => reserve_any e m w hn1 hm)
          have kt := Lib.hid (fun w => tx_take_none e w hn1)
          have ko := Lib.hid (fun w => tx_take_one e m w hn1 hm1)
          have HM := Lib.hid hm
          have hc' : ((j : Int) % 16 == 0) = true := by rw [beq_iff_eq]; omega
          clear hc hnx hn hm hM
          go_wp2_with fail
          refine (kn.out _).mono ?_
          rintro e1 w2 ⟨rfl, hb2⟩
          obtain ⟨y1, rfl⟩ := later_is hb2
          have c0 := y1.keep c0
          have c1 := y1.keep c1
          have f0 := (y1.frozen p 0 hbw).trans f0
          have f1 := (y1.frozen p 1 hbw).trans f1
          have lb1 : p < y1.val.heap.size := block_lt_of_cell c0
          clear hb2
          go_wp2_with fail
          refine (kt.out _).mono ?_
          rintro e1 w2 ⟨rfl, hb2⟩
          obtain ⟨y2, rfl⟩ := later_is hb2
          have hz2 := y2.bel.size
          simp at hz2
          have c0 := y2.keep (keep_alloc c0)
          have c1 := y2.keep (keep_alloc c1)
          have f0 := (y2.frozen p 0 (by simp; omega)).trans (((Below.refl _ _).alloc (Nat.le_refl _) _).frozen (p := ⟨p, 0, none⟩) lb1 |>.trans f0)
          have f1 := (y2.frozen p 1 (by simp; omega)).trans (((Below.refl _ _).alloc (Nat.le_refl _) _).frozen (p := ⟨p, 1, none⟩) lb1 |>.trans f1)
          have lb2 : p < y2.val.heap.size := block_lt_of_cell c0
          have q0 := y2.bel.cell (p := ⟨y1.val.heap.size, 0, none⟩) (by simp)
          have q1 := y2.bel.cell (p := ⟨y1.val.heap.size, 1, none⟩) (by simp)
          have q2 := y2.bel.cell (p := ⟨y1.val.heap.size, 2, none⟩) (by simp)
          have q3 := y2.bel.cell (p := ⟨y1.val.heap.size, 3, none⟩) (by simp)
          have q4 := y2.bel.cell (p := ⟨y1.val.heap.size, 4, none⟩) (by simp)
          simp only [World.cell?_alloc_new] at q0 q1 q2 q3 q4
          have lb3 : y1.val.heap.size < y2.val.heap.size := by omega
          clear hb2
          go_wp2_with fail
          refine (kr.out _).mono ?_
          rintro e1 w2 ⟨rfl, hb2⟩
          obtain ⟨y3, rfl⟩ := later_is hb2
          have hz3 := y3.bel.size
          simp at hz3
          have c0 := y3.keep (keep_alloc c0)
          have c1 := y3.keep (keep_alloc c1)
          have f0 := (y3.frozen p 0 (by simp; omega)).trans (((Below.refl _ _).alloc (Nat.le_refl _) _).frozen (p := ⟨p, 0, none⟩) lb2 |>.trans f0)
          have f1 := (y3.frozen p 1 (by simp; omega)).trans (((Below.refl _ _).alloc (Nat.le_refl _) _).frozen (p := ⟨p, 1, none⟩) lb2 |>.trans f1)
          have lb4 : p < y3.val.heap.size := block_lt_of_cell c0
          have hbel3 : Below w.heap.size w y3.val := (by repeat (first | exact Below.refl _ _ | refine bel_later _ ?_ | refine bel_alloc ?_ _ | refine bel_set ?_ (by first | omega | (simp; done) | (simp; omega)) _ | refine Below.drew ?_ | assumption))
          clear hb2 q0 q1 q2 q3 q4
          go_wp2_with fail
          refine (ko.out _).mono ?_
          rintro e1 w2 ⟨rfl, hb2⟩
          obtain ⟨y4, rfl⟩ := later_is hb2
          have hz4 := y4.bel.size
          simp at hz4
          have hB2 := ((Box2.mk c0 c1 f0 f1).set (.int .u32 (e : Int)) (.int .u32 (m : Int))).alloc (.cells #[.int .u32 (e : Int), .int .u32 (m : Int)] 24)
          have c0' := y4.keep hB2.c0
          have c1' := y4.keep hB2.c1
          have f0' := (y4.frozen p 0 (by simp; omega)).trans hB2.f0
          have f1' := (y4.frozen p 1 (by simp; omega)).trans hB2.f1
          have lb5 : p < y4.val.heap.size := block_lt_of_cell c0'
          clear hb2 hB2
          go_wp2
          go_roundw
          case rel => exact ⟨j + 1, e + 1, m, by omega, by go_num, by rw [HT.out]; omega, by rw [HX.out, HM.out], by omega, (by rw [show (((e + 1 : Nat)) : Int) = (e : Int) + 1 by omega]; exact ((Box2.mk c0' c1' f0' f1').set _ _).alloc _), (by repeat (first | exact Below.refl _ _ | refine bel_later _ ?_ | refine bel_alloc ?_ _ | refine bel_set ?_ (by first | omega | (simp; done) | (simp; omega)) _ | refine Below.drew ?_ | assumption))⟩
          case measure => simp [intOf]; omega
        · have hen := Tx.endAt_in (b := bg) (i := j) hc (by omega)
          rw [← HE.out] at hen
          rw [if_neg hc] at hnx
          have HX := Lib.hid hnx
          have hne : n < e := by omega
          have kn := Lib.hid (fun w => need_no n e w (by omega) (by omega) (.inl (by omega)))
          have ko := Lib.hid (fun w => tx_take_one n e w hn1 hne)
          have hc' : ((j : Int) % 16 == 0) = false := beq_eq_false_iff_ne.2 (by omega)
          clear hc hnx hn hM hen
          go_wp2_with fail
          refine (kn.out _).mono ?_
          rintro e1 w2 ⟨rfl, hb2⟩
          obtain ⟨y1, rfl⟩ := later_is hb2
          have c0 := y1.keep c0
          have c1 := y1.keep c1
          have f0 := (y1.frozen p 0 hbw).trans f0
          have f1 := (y1.frozen p 1 hbw).trans f1
          have lb1 : p < y1.val.heap.size := block_lt_of_cell c0
          clear hb2
          go_wp2_with fail
          refine (ko.out _).mono ?_
          rintro e1 w2 ⟨rfl, hb2⟩
          obtain ⟨y2, rfl⟩ := later_is hb2
          have hz2 := y2.bel.size
          simp at hz2
          have c0 := y2.keep (keep_alloc c0)
          have c1 := y2.keep (keep_alloc c1)
          have f0 := (y2.frozen p 0 (by simp; omega)).trans (((Below.refl _ _).alloc (Nat.le_refl _) _).frozen (p := ⟨p, 0, none⟩) lb1 |>.trans f0)
          have f1 := (y2.frozen p 1 (by simp; omega)).trans (((Below.refl _ _).alloc (Nat.le_refl _) _).frozen (p := ⟨p, 1, none⟩) lb1 |>.trans f1)
          have lb2 : p < y2.val.heap.size := block_lt_of_cell c0
          clear hb2
          go_wp2
          go_roundw
          case rel => exact ⟨j + 1, n + 1, e, by omega, by go_num, by rw [HT.out]; omega, by rw [HX.out, HE.out], by omega, (by rw [show (((n + 1 : Nat)) : Int) = (n : Int) + 1 by omega]; exact ((Box2.mk c0 c1 f0 f1).set _ _).alloc _), (by repeat (first | exact Below.refl _ _ | refine bel_later _ ?_ | refine bel_alloc ?_ _ | refine bel_set ?_ (by first | omega | (simp; done) | (simp; omega)) _ | refine Below.drew ?_ | assumption))⟩
          case measure => simp [intOf]; omega
    · go_wp2_with fail
      refine (awake_any _).mono ?_
      rintro e1 w2 ⟨rfl, hb2⟩
      obtain ⟨y3, rfl⟩ := later_is hb2
      clear hb2
      go_wp2
      go_ret
      exact ⟨rfl, (by repeat (first | exact Below.refl _ _ | refine bel_later _ ?_ | refine bel_alloc ?_ _ | refine bel_set ?_ (by first | omega | (simp; done) | (simp; omega)) _ | refine Below.drew ?_ | assumption))⟩
end Go.Proofs.Ytkoelbcebfimiaa
