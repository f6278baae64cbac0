/- The walk of saucierlaw20.AgentAgain. -/
import Derived.Test.YtajbghjjpebndaaQ29
import Derived.Test.YtajbghjjpebndaaQ30
namespace Go.Proofs.Ytajbghjjpebndaa
set_option maxRecDepth 100000
open Go.RowKit
set_option linter.unusedVariables false
set_option linter.unusedSimpArgs false
attribute [local go_sem] Later.cell Later.frozen setCell_twice
attribute [local go_sem high] sliced_zero
theorem size_cmd5 : (Try.prog.info? 41).map (·.size) = some 5 := by kernel_rfl
theorem cmdL_one (q : Cmd) : ∀ x ∈ cmdL q, x.oneCell' = true := by
  intro x hx
  simp only [cmdL, List.mem_cons, List.not_mem_nil, or_false] at hx
  rcases hx with rfl | rfl | rfl | rfl | rfl <;> rfl
set_option maxHeartbeats 4000000 in
theorem again_walk (bs : List Nat) (Ab : Option Addr) (cb t : Nat) (l1 : List OV) (vo : OV) (l2 : List OV) (Al1 Al2 : Option Addr) (cl1 cl2 : Nat) (w : World) (sb : Sq u16w w w.heap.size Ab bs) (hub : ∀ x ∈ bs, x < 65536) (ht : t < 256) (hl1 : Ops w w.heap.size Al1 l1) (hcl1 : l1.length ≤ cl1) (hcl12 : cl1 ≤ 9223372036854775807) (hvo : vo.Ok w w.heap.size) (hl2 : Ops w w.heap.size Al2 l2) (hcl2 : l2.length ≤ cl2) (hcl22 : cl2 ≤ 9223372036854775807) :
    Calls Try.prog 7 #[.slice Ab bs.length cb, .int .u8 (t : Int), .slice Al1 l1.length cl1, .agg (opL vo).toArray, .slice Al2 l2.length cl2] w fun e w' => e = .returned (.bool true) ∧ Below w.heap.size w w' := by
  have kbeg := Lib.hid (fun W (hW : Below w.heap.size w W) => begun_any Ab bs bs.length cb t W rfl ((sb.below hW).more hW.size) hub ht)
  obtain ⟨N, hN⟩ : ∃ N : Nat, N = min l1.length 60 := ⟨_, rfl⟩
  obtain ⟨nl, hnl⟩ : ∃ n, l1.length = n := ⟨_, rfl⟩
  have hmin1 : ∀ w, (Builtin.min_ #[3, 3] 3 #[.int .i64 (nl : Int), .int .i64 60]).run Try.prog w = .ok (.int .i64 (N : Int)) w := fun w => run_min2 w _ _ nl 60 N (by rw [← hnl]; exact hN)
  obtain ⟨M, hM⟩ : ∃ M : Nat, M = min l2.length 20 := ⟨_, rfl⟩
  obtain ⟨ml, hml⟩ : ∃ n, l2.length = n := ⟨_, rfl⟩
  have hmin2 : ∀ w, (Builtin.min_ #[3, 3] 3 #[.int .i64 (ml : Int), .int .i64 20]).run Try.prog w = .ok (.int .i64 (M : Int)) w := fun w => run_min2 w _ _ ml 20 M (by rw [← hml]; exact hM)
  have hNc : N ≤ cl1 := by omega
  have hN2 : N ≤ 60 := by omega
  have hMc : M ≤ cl2 := by omega
  have hM2 : M ≤ 20 := by omega
  obtain ⟨L, hL⟩ : ∃ L, l1.take N = L := ⟨_, rfl⟩
  have hLN : L.length = N := by rw [← hL, List.length_take]; omega
  have OPS := Lib.hid (show Ops w w.heap.size Al1 L by rw [← hL]; exact hl1.take N)
  have HLN := Lib.hid hLN
  obtain ⟨L2, hL2⟩ : ∃ L, l2.take M = L := ⟨_, rfl⟩
  have hLM : L2.length = M := by rw [← hL2, List.length_take]; omega
  have OPT := Lib.hid (show Ops w w.heap.size Al2 L2 by rw [← hL2]; exact hl2.take M)
  have HLM := Lib.hid hLM
  obtain ⟨b1, hb1⟩ : ∃ b, few20 L 60 = b := ⟨_, rfl⟩
  have kf1 := Lib.hid (fun W (hW : Below w.heap.size w W) => few20_any Al1 L cl1 N 60 b1 W HLN.out (OPS.out.to hW) hNc hcl12 hb1)
  obtain ⟨b2, hb2⟩ : ∃ b, few20 L2 20 = b := ⟨_, rfl⟩
  have kf2 := Lib.hid (fun W (hW : Below w.heap.size w W) => few20_any Al2 L2 cl2 M 20 b2 W HLM.out (OPT.out.to hW) hMc hcl22 hb2)
  have hr0 := begG_right bs t
  have HR0 := Lib.hid hr0
  have HVO := Lib.hid hvo
  rw [hnl] at hcl1 ⊢
  rw [hml] at hcl2 ⊢
  clear sb hub ht hl1 hl2 hN hL hLN hb1 hnl hr0 hM hL2 hLM hb2 hml hvo
  go_enter Try.func7, Try.ntmps7
  go_upto_region 1 with fail
  obtain ⟨wb, hwb⟩ : ∃ w_q_, w_q_ = w.alloc (.cells (opL vo).toArray 43) := ⟨_, rfl⟩
  rw [← hwb]
  have RV : Hid (RowAt wb w.heap.size 43 (opL vo)) := Lib.hid (by rw [hwb]; exact RowAt.new w _ _)
  have HBB : Hid (Below w.heap.size w wb) := Lib.hid (by rw [hwb]; exact bel_alloc (Below.refl _ _) _)
  have hzb : w.heap.size + 1 ≤ wb.heap.size := by rw [hwb, World.size_alloc]; exact Nat.le_refl _
  clear hwb
  go_wp2_with fail
  with_reducible refine (kbeg.out _ HBB.out).mono ?_
  rintro e1 w1 ⟨A1, c1, s1, rfl, i1, hb1⟩
  have HC1 := Lib.hid i1.C32
  have I1 := Lib.hid (i1.more (base' := 0) (Nat.zero_le _))
  have BZ := Lib.hid (HBB.out.trans (hb1.mono HBB.out.size))
  replace RV := Lib.hid (RV.out.to hb1)
  have OF1 := Lib.hid (i1.off (.inr (Nat.le_refl _)))
  have hzw := hb1.size
  clear i1 hb1 kbeg
  go_upto_region 2 with (refine wpList_store_var rfl 35 (.tmp 11) (.tmp 30) rfl w1.heap.size (agC none 0 Stv.zero Ag0) (agC A1 c1 s1 (begG bs t)) 32 rfl rfl (new_agent w1) size_32 rfl HC1.out (agC_one _) ?_; intro w_3 r_3 k_3; have R_3 := Lib.hid r_3; have HB_3 : Hid (Below w1.heap.size w1 w_3) := Lib.hid (k_3.to (bel_alloc (Below.refl _ _) (.cells z32 35)) (Nat.le_refl _)); clear r_3 k_3)
  replace I1 := Lib.hid (I1.out.to HB_3.out)
  replace RV := Lib.hid (RV.out.to HB_3.out)
  replace BZ := Lib.hid (BZ.out.trans (HB_3.out.mono BZ.out.size))
  obtain ⟨gA, hgA⟩ : ∃ gA, w1.heap.size = gA := ⟨_, rfl⟩
  have hwA : w.heap.size ≤ gA := by rw [← hgA]; omega
  have hwV : w.heap.size < gA := by rw [← hgA]; omega
  have RA := R_3
  rw [hgA] at RA OF1 ⊢
  clear HB_3 R_3 hgA hzw
  try simp only [Act.put]
  go_quiet (fail)
  obtain ⟨wy, hwy⟩ : ∃ q, w_3.drewN nq = q := ⟨_, rfl⟩
  rw [hwy]
  have HBY : Hid (Below w_3.heap.size w_3 wy) := Lib.hid (by rw [← hwy]; exact bel_drewN (Below.refl _ _) nq)
  clear hwy hmin1 hmin2
  replace RA := Lib.hid (RA.out.to HBY.out)
  replace I1 := Lib.hid (I1.out.to HBY.out)
  replace RV := Lib.hid (RV.out.to HBY.out)
  replace BZ := Lib.hid (BZ.out.trans (HBY.out.mono BZ.out.size))
  clear HBY
  go_wp2_with fail
  with_reducible refine (kf1.out _ BZ.out).mono ?_
  rintro e2 w2 ⟨rfl, hq2⟩
  replace RA := Lib.hid (RA.out.to hq2)
  replace I1 := Lib.hid (I1.out.to hq2)
  replace RV := Lib.hid (RV.out.to hq2)
  replace BZ := Lib.hid (BZ.out.trans (hq2.mono BZ.out.size))
  clear hq2 kf1
  cases b1
  · go_wp2_with fail
    with_reducible refine (awake20_any _).mono ?_
    rintro e3 w3 ⟨rfl, hq3⟩
    have BZ3 := Lib.hid (BZ.out.trans (hq3.mono BZ.out.size))
    clear hq3
    go_wp2
    go_ret
    exact ⟨rfl, BZ3.out⟩
  go_wp2_with fail
  with_reducible refine (kf2.out _ BZ.out).mono ?_
  rintro e4 w4 ⟨rfl, hq4⟩
  replace RA := Lib.hid (RA.out.to hq4)
  replace I1 := Lib.hid (I1.out.to hq4)
  replace RV := Lib.hid (RV.out.to hq4)
  replace BZ := Lib.hid (BZ.out.trans (hq4.mono BZ.out.size))
  clear hq4 kf2
  cases b2
  · go_wp2_with fail
    with_reducible refine (awake20_any _).mono ?_
    rintro e3 w3 ⟨rfl, hq3⟩
    have BZ3 := Lib.hid (BZ.out.trans (hq3.mono BZ.out.size))
    clear hq3
    go_wp2
    go_ret
    exact ⟨rfl, BZ3.out⟩
  go_upto_region 6 with fail
  have I0 := Lib.hid (RV.out.to (Below.refl _ _))
  go_loopw [60] (fun i wr => ∃ k : Nat, ∃ (g : Ag) (Ak : Option Addr) (ck : Nat) (sk : Stv), k ≤ N ∧ i = .int .i64 (k : Int) ∧ Hid g.right ∧ Hid (RowAt wr gA 35 (agC Ak ck sk g)) ∧ Hid (AgIs Ak ck sk g wr 0) ∧ Hid (AgOff gA Ak sk g) ∧ Hid (Below w.heap.size w wr) ∧ Hid (RowAt wr w.heap.size 43 (opL vo))) (fun i _ => N - (intOf i).toNat)
  case atStart => exact ⟨0, _, A1, c1, s1, by omega, rfl, HR0, RA, I1, OF1, BZ, RV⟩
  case round =>
    rename World => wr
    clear RA I1 OF1 BZ HR0 RV I0
    obtain ⟨k, g, Ak, ck, sk, hk, rfl, HR, RA, IA, OFA, BK, RV⟩ := hrel
    by_cases hlt : k < N
    · have hltI : (k : Int) < (N : Int) := by omega
      have h0I : (0 : Int) ≤ (k : Int) := by omega
      have HCA := Lib.hid IA.out.C32
      have hlA := RA.out.lt
      obtain ⟨go, oo, v, rfl, hgo, hv, hok, hrg⟩ := (OPS.out.to BK.out).at_ (k := k) (by rw [HLN.out]; exact hlt)
      have HV := Lib.hid hv
      have HG := Lib.hid hrg
      have HOK := Lib.hid hok
      clear hv hok hrg hgo
      go_upto_region 8 with (first | (refine wpList_load_mid rfl 43 (.tmp 62) rfl go (oo + k * 10) rfl (opL v) _ HG.out Try.underlying43 rfl (by rw [size_op]; rfl) ?_) | (refine wpList_store_var rfl 43 (.tmp 14) (.tmp 63) rfl wr.heap.size _ (opL v) 10 rfl rfl (heap_alloc_new wr _) size_op rfl rfl (opL_one v) ?_; intro w_5 r_5 k_5; have RO := Lib.hid r_5; have HB_5 : Hid (Below wr.heap.size wr w_5) := Lib.hid (k_5.to (bel_alloc (Below.refl _ _) _) (Nat.le_refl _)); clear r_5 k_5))
      have HOK5 := Lib.hid (HOK.out.to HB_5.out)
      replace RA := Lib.hid (RA.out.to HB_5.out)
      replace IA := Lib.hid (IA.out.to HB_5.out)
      replace RV := Lib.hid (RV.out.to HB_5.out)
      replace BK := Lib.hid (BK.out.trans (HB_5.out.mono BK.out.size))
      obtain ⟨gO, hgO⟩ : ∃ gO, wr.heap.size = gO := ⟨_, rfl⟩
      have hwO : gA < gO := by omega
      rw [hgO] at RO ⊢
      clear HB_5 hgO
      obtain ⟨XX, hX⟩ : ∃ XX, v.op.does g = XX := ⟨_, rfl⟩
      have kd := Lib.hid (does_any w_5 IA.out HR.out v HOK5.out)
      rw [hX] at kd
      have HRN : Hid (XX.1.right) := Lib.hid (by rw [← hX]; exact AOp.does_right _ HR.out IA.out.S8)
      clear hX
      try simp only [Act.put]
      go_wp2_with (first | (refine wpList_load_var rfl 35 (.tmp 11) rfl (gA) rfl _ _ 32 RA.out Try.underlying35 rfl size_32 HCA.out ?_) | (refine wpList_load_var rfl 43 (.tmp 14) rfl gO rfl _ _ 10 RO.out Try.underlying43 rfl size_op rfl ?_))
      with_reducible refine (kd.out).mono ?_
      rintro e6 w6 ⟨A6, c6, s6, rfl, i6, of6, hb6⟩
      have IN := Lib.hid i6
      have HCN := Lib.hid i6.C32
      have OFN := Lib.hid (of6 gA (by have := RA.out.lt; omega) OFA.out)
      replace RA := Lib.hid (RA.out.to hb6)
      replace RV := Lib.hid (RV.out.to hb6)
      replace BK := Lib.hid (BK.out.trans (hb6.mono BK.out.size))
      have HCO := HCA
      clear i6 of6 hb6 kd HOK5 HOK RO
      go_upto_region 9 with (refine wpList_store_var rfl 35 (.tmp 11) (.tmp 68) rfl (gA) _ (agC A6 c6 s6 XX.1) 32 rfl rfl RA.out size_32 (by first | rfl | exact HCO.out) HCN.out (agC_one _) ?_; intro w_8 r_8 k_8; have R_8 := Lib.hid r_8; have K_8 := Lib.hid k_8; clear r_8 k_8)
      go_wp2
      go_roundw
      case rel => exact ⟨k + 1, XX.1, A6, c6, s6, by omega, by go_num, HRN, R_8, Lib.hid (IN.out.onlyO K_8.out OFN.out), OFN, Lib.hid (K_8.out.to BK.out hwA), Lib.hid (RV.out.only K_8.out (by omega))⟩
      case measure => simp [intOf]; omega
    obtain rfl : k = N := by omega
    clear hlt
    have HCA := Lib.hid IA.out.C32
    have BZ := BK
    obtain ⟨Q, hQ⟩ : ∃ Q, vo.op.cmd g = Q := ⟨_, rfl⟩
    have kq := Lib.hid (command_any wr IA.out vo (HVO.out.to BK.out))
    rw [hQ] at kq
    have HQF : Hid Q.Fit := Lib.hid (by rw [← hQ]; exact IA.out.cmd_fit (HVO.out.to BK.out))
    clear hQ
    go_wp2_with (first | (refine wpList_load_var rfl 35 (.tmp 11) rfl (gA) rfl _ _ 32 RA.out Try.underlying35 rfl size_32 HCA.out ?_) | (refine wpList_load_var rfl 43 (.tmp 8) rfl w.heap.size rfl _ _ 10 RV.out Try.underlying43 rfl size_op rfl ?_))
    with_reducible refine (kq.out).mono ?_
    rintro e5 w5 ⟨rfl, hq5⟩
    replace RA := Lib.hid (RA.out.to hq5)
    replace IA := Lib.hid (IA.out.to hq5)
    replace BZ := Lib.hid (BZ.out.trans (hq5.mono BZ.out.size))
    clear hq5 kq RV BK
    go_upto_region 11 with (refine wpList_store_var rfl 41 (.tmp 15) (.tmp 73) rfl w5.heap.size _ (cmdL Q) 5 rfl rfl (heap_alloc_new w5 _) size_cmd5 rfl rfl (cmdL_one Q) ?_; intro w_6 r_6 k_6; have RQ := Lib.hid r_6; have HB_6 : Hid (Below w5.heap.size w5 w_6) := Lib.hid (k_6.to (bel_alloc (Below.refl _ _) _) (Nat.le_refl _)); clear r_6 k_6)
    replace RA := Lib.hid (RA.out.to HB_6.out)
    replace IA := Lib.hid (IA.out.to HB_6.out)
    replace BZ := Lib.hid (BZ.out.trans (HB_6.out.mono BZ.out.size))
    obtain ⟨gQ, hgQ⟩ : ∃ gQ, w5.heap.size = gQ := ⟨_, rfl⟩
    rw [hgQ] at RQ ⊢
    clear HB_6 hgQ
    try simp only [Act.put]
    obtain ⟨XX, hX⟩ : ∃ XX, g.doit Q = XX := ⟨_, rfl⟩
    have HX := Lib.hid hX
    have kd := Lib.hid (agdo_any w_6 IA.out HR.out Q HQF.out)
    rw [hX] at kd
    have HRX : Hid (XX.1.right) := Lib.hid (by rw [← hX]; exact HR.out.doit IA.out.S8 _)
    clear hX
    go_wp2_with (first | (refine wpList_load_var rfl 35 (.tmp 11) rfl (gA) rfl _ _ 32 RA.out Try.underlying35 rfl size_32 HCA.out ?_) | (refine wpList_load_var rfl 41 (.tmp 15) rfl gQ rfl _ _ 5 RQ.out Try.underlying41 rfl size_cmd5 rfl ?_))
    with_reducible refine (kd.out).mono ?_
    rintro e7 w7 ⟨A7, c7, s7, rfl, i7, hb7⟩
    have IX := Lib.hid (i7.more (base' := 0) (Nat.zero_le _))
    have HCX := Lib.hid i7.C32
    replace RQ := Lib.hid (RQ.out.to hb7)
    replace BZ := Lib.hid (BZ.out.trans (hb7.mono BZ.out.size))
    clear i7 hb7 kd RA IA OFA HCA
    go_upto_region 12 with (refine wpList_store_var rfl 35 (.tmp 16) (.tmp 78) rfl w7.heap.size (agC none 0 Stv.zero Ag0) (agC A7 c7 s7 XX.1) 32 rfl rfl (new_agent w7) size_32 rfl HCX.out (agC_one _) ?_; intro w_9 r_9 k_9; have R_9 := Lib.hid r_9; have HB_9 : Hid (Below w7.heap.size w7 w_9) := Lib.hid (k_9.to (bel_alloc (Below.refl _ _) (.cells z32 35)) (Nat.le_refl _)); clear r_9 k_9)
    replace RQ := Lib.hid (RQ.out.to HB_9.out)
    replace IX := Lib.hid (IX.out.to HB_9.out)
    replace BZ := Lib.hid (BZ.out.trans (HB_9.out.mono BZ.out.size))
    obtain ⟨gX, hgX⟩ : ∃ gX, w7.heap.size = gX := ⟨_, rfl⟩
    have RX := R_9
    rw [hgX] at RX ⊢
    clear HB_9 R_9 hgX
    try simp only [Act.put]
    go_upto_if 81 with fail
    go_cut [] (fun wx => Hid (Below w_9.heap.size w_9 wx))
    case first =>
      by_cases he : XX.2 = 0
      rotate_left
      · have ge : (XX.2 == 0) = false := beq_eq_false_iff_ne.2 he
        clear he
        go_wp2
        go_meet
        case rel => exact Lib.hid (Below.refl _ _)
      have ge : (XX.2 == 0) = true := beq_iff_eq.2 he
      have hag := doit_again (q := Q) HR.out (by rw [HX.out]; exact he)
      rw [HX.out] at hag
      have kd2 := Lib.hid (agdo_any w_9 IX.out HRX.out Q HQF.out)
      rw [hag.2] at kd2
      have HV4 := Lib.hid hag.1
      clear hag he
      go_wp2_with (first | (refine wpList_load_var rfl 35 (.tmp 16) rfl (gX) rfl _ _ 32 RX.out Try.underlying35 rfl size_32 HCX.out ?_) | (refine wpList_load_var rfl 41 (.tmp 15) rfl gQ rfl _ _ 5 RQ.out Try.underlying41 rfl size_cmd5 rfl ?_))
      with_reducible refine (kd2.out).mono ?_
      rintro e10 w10 ⟨A10, c10, s10, rfl, i10, hb10⟩
      have IY := Lib.hid (i10.more (base' := 0) (Nat.zero_le _))
      have HCY := Lib.hid i10.C32
      replace RQ := Lib.hid (RQ.out.to hb10)
      replace IX := Lib.hid (IX.out.to hb10)
      replace RX := Lib.hid (RX.out.to hb10)
      have BL := Lib.hid hb10
      clear i10 hb10 kd2
      go_upto_region 14 with (refine wpList_store_var rfl 35 (.tmp 18) (.tmp 86) rfl w10.heap.size (agC none 0 Stv.zero Ag0) (agC A10 c10 s10 XX.1) 32 rfl rfl (new_agent w10) size_32 rfl HCY.out (agC_one _) ?_; intro w_11 r_11 k_11; have R_11 := Lib.hid r_11; have HB_11 : Hid (Below w10.heap.size w10 w_11) := Lib.hid (k_11.to (bel_alloc (Below.refl _ _) (.cells z32 35)) (Nat.le_refl _)); clear r_11 k_11)
      replace RQ := Lib.hid (RQ.out.to HB_11.out)
      replace IX := Lib.hid (IX.out.to HB_11.out)
      replace RX := Lib.hid (RX.out.to HB_11.out)
      replace IY := Lib.hid (IY.out.to HB_11.out)
      replace BL := Lib.hid (BL.out.trans (HB_11.out.mono BL.out.size))
      obtain ⟨gY, hgY⟩ : ∃ gY, w10.heap.size = gY := ⟨_, rfl⟩
      have RY := R_11
      rw [hgY] at RY ⊢
      clear HB_11 R_11 hgY
      try simp only [Act.put]
      have q1 : w_11.cell? ⟨gQ, 1, none⟩ = some (.int .u8 (Q.v : Int)) := RQ.out.cells 1
      have ks := Lib.hid (agsame_any true w_11 IX.out IY.out (by simp))
      go_cut [20] (fun x wx => x = .bool true ∧ w_11 = wx)
      case first =>
        by_cases v2 : Q.v = 2
        · have u2 : ((Q.v : Int) == 2) = true := beq_iff_eq.2 (by omega)
          clear v2
          go_wp2
          go_meet
          case rel => exact ⟨rfl, rfl⟩
        have u2 : ((Q.v : Int) == 2) = false := beq_eq_false_iff_ne.2 (by omega)
        by_cases v1 : Q.v = 1
        · have u1 : ((Q.v : Int) == 1) = true := beq_iff_eq.2 (by omega)
          clear v2 v1
          go_wp2
          go_meet
          case rel => exact ⟨rfl, rfl⟩
        have u1 : ((Q.v : Int) == 1) = false := beq_eq_false_iff_ne.2 (by omega)
        by_cases v3 : Q.v = 3
        · have u3 : ((Q.v : Int) == 3) = true := beq_iff_eq.2 (by omega)
          clear v2 v1 v3
          go_wp2
          go_meet
          case rel => exact ⟨rfl, rfl⟩
        have u3 : ((Q.v : Int) == 3) = false := beq_eq_false_iff_ne.2 (by omega)
        have u4 : ((Q.v : Int) == 4) = true := beq_iff_eq.2 (by have := HV4.out; omega)
        clear v2 v1 v3
        go_wp2
        go_meet
        case rel => exact ⟨rfl, rfl⟩
      case rest =>
      obtain ⟨rfl, rfl⟩ := hcut
      clear q1
      go_wp2_with (first | (refine wpList_load_var (by kernel_rfl) 35 (.tmp 16) rfl gX rfl _ _ 32 RX.out Try.underlying35 rfl size_32 HCX.out ?_) | (refine wpList_load_var (by kernel_rfl) 35 (.tmp 18) rfl gY rfl _ _ 32 RY.out Try.underlying35 rfl size_32 HCY.out ?_))
      with_reducible refine (ks.out).mono ?_
      rintro e12 w12 ⟨rfl, hb12⟩
      replace BL := Lib.hid (BL.out.trans (hb12.mono BL.out.size))
      clear hb12
      go_wp2
      go_meet
      case rel => exact BL
    case rest =>
    have BL := hcut
    rename World => wz
    replace RX := Lib.hid (RX.out.to BL.out)
    replace IX := Lib.hid (IX.out.to BL.out)
    replace BZ := Lib.hid (BZ.out.trans (BL.out.mono BZ.out.size))
    clear BL RQ HQF HX HVO
    have x3 : wz.cell? ⟨gX, 3, none⟩ = some (.int .u8 (XX.1.ph : Int)) := RX.out.cells 3
    have x5 : wz.cell? ⟨gX, 5, none⟩ = some (.int .u32 (XX.1.la : Int)) := RX.out.cells 5
    by_cases hl0 : XX.1.la = 0
    · have u1 : ((XX.1.la : Int) == 0) = true := by simp [hl0]
      clear hl0
      go_wp2_with fail
      with_reducible refine (awake20_any _).mono ?_
      rintro e3 w3 ⟨rfl, hq3⟩
      have BZ3 := Lib.hid (BZ.out.trans (hq3.mono BZ.out.size))
      clear hq3
      go_wp2
      go_ret
      exact ⟨rfl, BZ3.out⟩
    have u1 : ((XX.1.la : Int) == 0) = false := beq_eq_false_iff_ne.2 (by omega)
    by_cases hp0 : XX.1.ph = 0
    rotate_left
    · have u2 : ((XX.1.ph : Int) != 0) = true := bne_iff_ne.2 (by omega)
      clear hl0 hp0
      go_wp2_with fail
      with_reducible refine (awake20_any _).mono ?_
      rintro e3 w3 ⟨rfl, hq3⟩
      have BZ3 := Lib.hid (BZ.out.trans (hq3.mono BZ.out.size))
      clear hq3
      go_wp2
      go_ret
      exact ⟨rfl, BZ3.out⟩
    have u2 : ((XX.1.ph : Int) != 0) = false := by simp [hp0]
    have HL0 := Lib.hid hl0
    have HP0 := Lib.hid hp0
    clear hp0 hl0
    go_upto_region 20 with fail
    clear x3 u2 x5
    obtain ⟨la, hla⟩ : ∃ la, XX.1.la = la := ⟨_, rfl⟩
    have hlz : la ≠ 0 := by rw [← hla]; exact HL0.out
    have hlm : la < 4294967296 := by rw [← hla]; exact IX.out.la
    rw [hla] at u1
    have HLA := Lib.hid hla
    clear hla
    have hwX := RX.out.lt
    have hwX0 : w.heap.size ≤ wz.heap.size := BZ.out.size
    go_loopw [129] (fun i ws => ∃ j : Nat, j ≤ M ∧ i = .int .i64 (j : Int) ∧ Hid (Below wz.heap.size wz ws)) (fun i _ => M - (intOf i).toNat)
    case atStart => exact ⟨0, by omega, rfl, Lib.hid (Below.refl _ _)⟩
    case round =>
      obtain ⟨j, hj, rfl, BL⟩ := hrel
      rename World => ws
      have BKS := Lib.hid (BZ.out.trans (BL.out.mono BZ.out.size))
      by_cases hlt : j < M
      rotate_left
      · obtain rfl : j = M := by omega
        have BZ := BKS
        go_upto_region 29 with fail
        go_wp2_with fail
        with_reducible refine (awake20_any _).mono ?_
        rintro e3 w3 ⟨rfl, hq3⟩
        have BZ3 := Lib.hid (BZ.out.trans (hq3.mono BZ.out.size))
        clear hq3
        go_wp2
        go_ret
        exact ⟨rfl, BZ3.out⟩
      have hltI : (j : Int) < (M : Int) := by omega
      have h0I : (0 : Int) ≤ (j : Int) := by omega
      have RXs := Lib.hid (RX.out.to BL.out)
      have IXs := Lib.hid (IX.out.to BL.out)
      have hlA := RXs.out.lt
      have hlB := BL.out.size
      obtain ⟨go, oo, v, rfl, hgo, hv, hok, hrg⟩ := (OPT.out.to BKS.out).at_ (k := j) (by rw [HLM.out]; exact hlt)
      have HV := Lib.hid hv
      have HG := Lib.hid hrg
      have HOK := Lib.hid hok
      clear hv hok hrg hgo
      go_upto_region 22 with (first | (refine wpList_load_mid rfl 43 (.tmp 131) rfl go (oo + j * 10) rfl (opL v) _ HG.out Try.underlying43 rfl (by rw [size_op]; rfl) ?_) | (refine wpList_store_var rfl 43 (.tmp 22) (.tmp 132) rfl ws.heap.size _ (opL v) 10 rfl rfl (heap_alloc_new ws _) size_op rfl rfl (opL_one v) ?_; intro w_5 r_5 k_5; have RO := Lib.hid r_5; have HB_5 : Hid (Below ws.heap.size ws w_5) := Lib.hid (k_5.to (bel_alloc (Below.refl _ _) _) (Nat.le_refl _)); clear r_5 k_5))
      have HOK5 := Lib.hid (HOK.out.to HB_5.out)
      replace RXs := Lib.hid (RXs.out.to HB_5.out)
      replace IXs := Lib.hid (IXs.out.to HB_5.out)
      replace BKS := Lib.hid (BKS.out.trans (HB_5.out.mono BKS.out.size))
      replace BL := Lib.hid (BL.out.trans (HB_5.out.mono BL.out.size))
      obtain ⟨gO, hgO⟩ : ∃ gO, ws.heap.size = gO := ⟨_, rfl⟩
      have hwO : gX < gO ∧ wz.heap.size ≤ gO := ⟨by omega, by omega⟩
      have hgOe : ws.heap.size ≤ gO := by omega
      rw [hgO] at RO ⊢
      clear HB_5 hgO
      try simp only [Act.put]
      obtain ⟨wh, ⟨ow, vb, tx, cn, ck2⟩, good, nn, x⟩ := v
      obtain ⟨m, hm⟩ : ∃ m, wh % 2 = m := ⟨_, rfl⟩
      have hmI : (wh : Int) % 2 = (m : Int) := by omega
      have olt : gO < (w_5).heap.size := RO.out.lt
      have olu : gO < (w_5).heap.size + 1 := Nat.lt_succ_of_lt RO.out.lt
      have o0 : (w_5).cell? ⟨gO, 0, none⟩ = some (.int .u8 (wh : Int)) := RO.out.cells 0
      have oz0 : (w_5).frozen? ⟨gO, 0, none⟩ = false := RO.out.frozen 0
      go_upto_region 23 with fail
      try rw [hmI]
      obtain ⟨w_6, hw_6⟩ : ∃ w_q_, w_q_ = w_5.setCell ⟨gO, 0, none⟩ (.int .u8 (m : Int)) := ⟨_, rfl⟩
      rw [← hw_6]
      have k6 : Only gO w_5 w_6 := by rw [hw_6]; exact (Only.refl _ _).set _
      have RO6 : Hid (RowAt w_6 gO 43 (opL ⟨m, ⟨ow, vb, tx, cn, ck2⟩, good, nn, x⟩)) := Lib.hid (by rw [hw_6]; exact RO.out.set 0 _)
      have HX6 : Hid (x.Ok w_5 w_5.heap.size) := Lib.hid HOK5.out.x
      have HF6 := Lib.hid HOK5.out.c
      have HN6 := Lib.hid HOK5.out.n
      have IX6 := Lib.hid ((IX.out.off (b := gO) (.inr hwO.2)))
      have RX6 := Lib.hid (RXs.out.only k6 (by omega))
      have K6 := Lib.hid k6
      clear hw_6 k6 o0 oz0 olt olu hmI
      have olt : gO < (w_6).heap.size := RO6.out.lt
      have olu : gO < (w_6).heap.size + 1 := Nat.lt_succ_of_lt RO6.out.lt
      have o0 : (w_6).cell? ⟨gO, 0, none⟩ = some (.int .u8 (m : Int)) := RO6.out.cells 0
      have oz0 : (w_6).frozen? ⟨gO, 0, none⟩ = false := RO6.out.frozen 0
      have o1 : (w_6).cell? ⟨gO, 1, none⟩ = some (.int .u16 (ow : Int)) := RO6.out.cells 1
      have oz1 : (w_6).frozen? ⟨gO, 1, none⟩ = false := RO6.out.frozen 1
      have o2 : (w_6).cell? ⟨gO, 2, none⟩ = some (.int .u8 (vb : Int)) := RO6.out.cells 2
      have oz2 : (w_6).frozen? ⟨gO, 2, none⟩ = false := RO6.out.frozen 2
      have o3 : (w_6).cell? ⟨gO, 3, none⟩ = some (.int .u32 (tx : Int)) := RO6.out.cells 3
      have oz3 : (w_6).frozen? ⟨gO, 3, none⟩ = false := RO6.out.frozen 3
      have x5 : w_6.cell? ⟨gX, 5, none⟩ = some (.int .u32 (la : Int)) := by rw [← HLA.out]; exact RX6.out.cells 5
      obtain ⟨T, hT⟩ : ∃ T, 1 + tx % la = T := ⟨_, rfl⟩
      have hTb : 1 ≤ T ∧ T ≤ la := by have := Nat.mod_lt tx (Nat.pos_of_ne_zero hlz); omega
      obtain ⟨r, hr⟩ : ∃ r, tx % la = r := ⟨_, rfl⟩
      have hrI : (tx : Int) % (la : Int) = (r : Int) := by rw [← hr]; exact (Int.natCast_emod tx la).symm
      have hrT : T = 1 + r := by omega
      clear hT hr
      go_upto_region 24 with fail
      try rw [hrI]
      have hwI : IntKind.u32.wrap (1 + (r : Int)) = (T : Int) := by
        have : IntKind.u32.wrap (1 + (r : Int)) = (1 + (r : Int)) % 4294967296 := by simp [IntKind.wrap, IntKind.bits, IntKind.signed]
        omega
      first | rw [hwI] | rw [show 1 + (r : Int) = (T : Int) by omega]
      obtain ⟨w_7, hw_7⟩ : ∃ w_q_, w_q_ = w_6.setCell ⟨gO, 3, none⟩ (.int .u32 (T : Int)) := ⟨_, rfl⟩
      rw [← hw_7]
      have k7 : Only gO w_6 w_7 := by rw [hw_7]; exact (Only.refl _ _).set _
      have RO7 : Hid (RowAt w_7 gO 43 (opL ⟨m, ⟨ow, vb, T, cn, ck2⟩, good, nn, x⟩)) := Lib.hid (by rw [hw_7]; exact RO6.out.set 3 _)
      have hk7 := Only.trans K6.out k7
      have OFX : 0 < x.ws.length → ∀ p, x.A = some p → p.block ≠ gO := fun hn p hp e => by
        obtain ⟨b', o', hA, hb, _⟩ := HOK.out.x.sq hn
        rw [hA] at hp
        obtain rfl := Option.some.inj hp
        simp only at e
        omega
      have HX7 : Hid (x.Ok w_7 w_7.heap.size) := Lib.hid ⟨HX6.out.sq.onlyO hk7 OFX, HX6.out.u, HX6.out.lo, HX6.out.hi, HX6.out.ln, HX6.out.cap, HX6.out.nl⟩
      have RX7 := Lib.hid (RXs.out.only hk7 (by omega))
      have IX7 := Lib.hid (IXs.out.onlyO hk7 IX6.out)
      have HVO : Hid ((⟨m, ⟨ow, vb, T, cn, ck2⟩, good, nn, x⟩ : OV).Ok w_7 w_7.heap.size) := Lib.hid ⟨(show m < 256 by omega), ⟨HF6.out.ow, HF6.out.v, (show T < 4294967296 by omega), HF6.out.n, HF6.out.ck⟩, HN6.out, HX7.out⟩
      have BL7 := Lib.hid (hk7.to BL.out hwO.2)
      have BK7 := Lib.hid (hk7.to BKS.out (by omega))
      have hm01 : m = 0 ∨ m = 1 := by omega
      obtain ⟨YY, hY⟩ : ∃ YY, (⟨m, ⟨ow, vb, T, cn, ck2⟩, good, nn, x⟩ : OV).op.does XX.1 = YY := ⟨_, rfl⟩
      have kd := Lib.hid (does_any w_7 IX7.out HRX.out _ HVO.out)
      rw [hY] at kd
      have hold := does_old (o := (⟨m, ⟨ow, vb, T, cn, ck2⟩, good, nn, x⟩ : OV).op) HRX.out HP0.out HL0.out hm01 ⟨hTb.1, by rw [HLA.out]; exact hTb.2⟩
      rw [hY, HLA.out] at hold
      have HOLD : Hid (YY.1 = XX.1 ∧ (YY.2 = 0 ↔ (m = 0 ∧ vb = 3 ∧ T = la ∧ ow ≠ 0))) := Lib.hid hold
      clear hold hY hk7 k7 hw_7 OFX HX7 HVO RO6 HX6 HF6 HN6 RX6 K6 IX6 RXs IXs BL BKS RO HOK5 hwI hrI hm hrT o0 o1 o2 o3 oz0 oz1 oz2 oz3 olt olu x5
      have HCX7 := HCX
      go_wp2_with (first | (refine wpList_load_var rfl 35 (.tmp 16) rfl (gX) rfl _ _ 32 RX7.out Try.underlying35 rfl size_32 HCX.out ?_) | (refine wpList_load_var rfl 43 (.tmp 22) rfl gO rfl _ _ 10 RO7.out Try.underlying43 rfl size_op rfl ?_))
      with_reducible refine (kd.out).mono ?_
      rintro e8 w8 ⟨A8, c8, s8, rfl, i8, of8, hb8⟩
      have IN := Lib.hid i8
      have HCN := Lib.hid i8.C32
      replace RX7 := Lib.hid (RX7.out.to hb8)
      replace IX7 := Lib.hid (IX7.out.to hb8)
      replace RO7 := Lib.hid (RO7.out.to hb8)
      replace BL7 := Lib.hid (BL7.out.trans (hb8.mono BL7.out.size))
      replace BK7 := Lib.hid (BK7.out.trans (hb8.mono BK7.out.size))
      clear i8 of8 hb8 kd
      go_upto_region 25 with (refine wpList_store_var rfl 35 (.tmp 23) (.tmp 150) rfl w8.heap.size (agC none 0 Stv.zero Ag0) (agC A8 c8 s8 YY.1) 32 rfl rfl (new_agent w8) size_32 rfl HCN.out (agC_one _) ?_; intro w_9 r_9 k_9; have R_9 := Lib.hid r_9; have HB_9 : Hid (Below w8.heap.size w8 w_9) := Lib.hid (k_9.to (bel_alloc (Below.refl _ _) (.cells z32 35)) (Nat.le_refl _)); clear r_9 k_9)
      replace RX7 := Lib.hid (RX7.out.to HB_9.out)
      replace IX7 := Lib.hid (IX7.out.to HB_9.out)
      replace RO7 := Lib.hid (RO7.out.to HB_9.out)
      replace IN := Lib.hid (IN.out.to HB_9.out)
      replace BL7 := Lib.hid (BL7.out.trans (HB_9.out.mono BL7.out.size))
      replace BK7 := Lib.hid (BK7.out.trans (HB_9.out.mono BK7.out.size))
      obtain ⟨gN, hgN⟩ : ∃ gN, w8.heap.size = gN := ⟨_, rfl⟩
      have RN := R_9
      rw [hgN] at RN ⊢
      clear HB_9 R_9 hgN
      try simp only [Act.put]
      have ks := Lib.hid (agsame_any true w_9 IX7.out IN.out (by simp only [true_iff]; exact HOLD.out.1.symm))
      have olt : gO < (w_9).heap.size := RO7.out.lt
      have olu : gO < (w_9).heap.size + 1 := Nat.lt_succ_of_lt RO7.out.lt
      have o0 : (w_9).cell? ⟨gO, 0, none⟩ = some (.int .u8 (m : Int)) := RO7.out.cells 0
      have oz0 : (w_9).frozen? ⟨gO, 0, none⟩ = false := RO7.out.frozen 0
      have o1 : (w_9).cell? ⟨gO, 1, none⟩ = some (.int .u16 (ow : Int)) := RO7.out.cells 1
      have oz1 : (w_9).frozen? ⟨gO, 1, none⟩ = false := RO7.out.frozen 1
      have o2 : (w_9).cell? ⟨gO, 2, none⟩ = some (.int .u8 (vb : Int)) := RO7.out.cells 2
      have oz2 : (w_9).frozen? ⟨gO, 2, none⟩ = false := RO7.out.frozen 2
      have o3 : (w_9).cell? ⟨gO, 3, none⟩ = some (.int .u32 (T : Int)) := RO7.out.cells 3
      have oz3 : (w_9).frozen? ⟨gO, 3, none⟩ = false := RO7.out.frozen 3
      have x5 : w_9.cell? ⟨gX, 5, none⟩ = some (.int .u32 (la : Int)) := by rw [← HLA.out]; exact RX7.out.cells 5
      obtain ⟨dn, hdn⟩ : ∃ dn : Bool, dn = true ↔ (m = 0 ∧ vb = 3 ∧ T = la ∧ ow ≠ 0) := ⟨decide (m = 0 ∧ vb = 3 ∧ T = la ∧ ow ≠ 0), by simp⟩
      go_cut [25] (fun x wx => x = .bool dn ∧ w_9 = wx)
      case first =>
        have hno : ¬ (m = 0 ∧ vb = 3 ∧ T = la ∧ ow ≠ 0) → dn = false := no_of hdn
        by_cases t1 : m = 0
        rotate_left
        · have u1 : ((m : Int) == 0) = false := beq_eq_false_iff_ne.2 (by omega)
          obtain rfl := hno (fun q => t1 q.1)
          clear t1
          clear hno hdn
          go_wp2
          go_meet
          case rel => exact ⟨rfl, rfl⟩
        have u3 : ((m : Int) == 0) = true := beq_iff_eq.2 (by omega)
        by_cases t2 : vb = 3
        rotate_left
        · have u2 : ((vb : Int) == 3) = false := beq_eq_false_iff_ne.2 (by omega)
          obtain rfl := hno (fun q => t2 q.2.1)
          clear t1 t2
          clear hno hdn
          go_wp2
          go_meet
          case rel => exact ⟨rfl, rfl⟩
        have u2 : ((vb : Int) == 3) = true := beq_iff_eq.2 (by omega)
        by_cases t3 : T = la
        rotate_left
        · have u4 : ((T : Int) == (la : Int)) = false := beq_eq_false_iff_ne.2 (by omega)
          obtain rfl := hno (fun q => t3 q.2.2.1)
          clear t1 t2 t3
          clear hno hdn
          go_wp2
          go_meet
          case rel => exact ⟨rfl, rfl⟩
        have u4 : ((T : Int) == (la : Int)) = true := beq_iff_eq.2 (by omega)
        by_cases t4 : ow = 0
        · have u5 : ((ow : Int) != 0) = false := by simp [t4]
          obtain rfl := hno (fun q => q.2.2.2 t4)
          clear t1 t2 t3 t4
          clear hno hdn
          go_wp2
          go_meet
          case rel => exact ⟨rfl, rfl⟩
        have u5 : ((ow : Int) != 0) = true := bne_iff_ne.2 (by omega)
        obtain rfl : dn = true := hdn.2 ⟨t1, t2, t3, t4⟩
        clear t1 t2 t3 t4
        clear hno hdn
        go_wp2
        go_meet
        case rel => exact ⟨rfl, rfl⟩
      case rest =>
      obtain ⟨rfl, rfl⟩ := hcut
      have HDN : Hid (YY.2 = 0 ↔ dn = true) := Lib.hid (HOLD.out.2.trans hdn.symm)
      clear hdn HOLD o0 o1 o2 o3 oz0 oz1 oz2 oz3 olt olu x5 RO7
      cases dn
      · have ge : (YY.2 == 0) = false := beq_eq_false_iff_ne.2 (fun h => by have := HDN.out.1 h; cases this)
        clear HDN
        go_wp2_with (first | (refine wpList_load_var (by kernel_rfl) 35 (.tmp 23) rfl gN rfl _ _ 32 RN.out Try.underlying35 rfl size_32 HCN.out ?_) | (refine wpList_load_var (by kernel_rfl) 35 (.tmp 16) rfl gX rfl _ _ 32 RX7.out Try.underlying35 rfl size_32 HCX.out ?_))
        with_reducible refine (ks.out).mono ?_
        rintro e10 w10 ⟨rfl, hb10⟩
        have B10 := Lib.hid (BL7.out.trans (hb10.mono BL7.out.size))
        clear hb10
        go_wp2
        go_roundw
        case rel => exact ⟨j + 1, by omega, by go_num, B10⟩
        case measure => simp [intOf]; omega
      · have ge : (YY.2 == 0) = true := beq_iff_eq.2 (HDN.out.2 rfl)
        clear HDN
        go_wp2_with (first | (refine wpList_load_var (by kernel_rfl) 35 (.tmp 23) rfl gN rfl _ _ 32 RN.out Try.underlying35 rfl size_32 HCN.out ?_) | (refine wpList_load_var (by kernel_rfl) 35 (.tmp 16) rfl gX rfl _ _ 32 RX7.out Try.underlying35 rfl size_32 HCX.out ?_))
        with_reducible refine (ks.out).mono ?_
        rintro e10 w10 ⟨rfl, hb10⟩
        have B10 := Lib.hid (BL7.out.trans (hb10.mono BL7.out.size))
        clear hb10
        go_wp2
        go_roundw
        case rel => exact ⟨j + 1, by omega, by go_num, B10⟩
        case measure => simp [intOf]; omega
end Go.Proofs.Ytajbghjjpebndaa
