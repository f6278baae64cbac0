/- The walk of saucierlaw20.AgentOwns. -/
import Derived.Test.YtajbghjjpebndaaQ29
import Derived.Test.YtajbghjjpebndaaQ30
namespace Go.Proofs.Ytajbghjjpebndaa
set_option maxRecDepth 100000
open Go.RowKit
set_option linter.unusedVariables false
set_option linter.unusedSimpArgs false
attribute [local go_sem] Later.cell Later.frozen setCell_twice
attribute [local go_sem high] sliced_zero
set_option maxHeartbeats 4000000 in
theorem owns_walk (bs : List Nat) (Ab : Option Addr) (cb t : Nat) (l1 l2 : List OV) (Al1 Al2 : Option Addr) (cl1 cl2 : Nat) (w : World) (sb : Sq u16w w w.heap.size Ab bs) (hub : ∀ x ∈ bs, x < 65536) (ht : t < 256) (hl1 : Ops w w.heap.size Al1 l1) (hcl1 : l1.length ≤ cl1) (hcl12 : cl1 ≤ 9223372036854775807) (hl2 : Ops w w.heap.size Al2 l2) (hcl2 : l2.length ≤ cl2) (hcl22 : cl2 ≤ 9223372036854775807) :
    Calls Try.prog 5 #[.slice Ab bs.length cb, .int .u8 (t : Int), .slice Al1 l1.length cl1, .slice Al2 l2.length cl2] w fun e w' => e = .returned (.bool true) ∧ Below w.heap.size w w' := by
  have kbeg := Lib.hid (fun W (hW : Below w.heap.size w W) => begun_any Ab bs bs.length cb t W rfl ((sb.below hW).more hW.size) hub ht)
  obtain ⟨N, hN⟩ : ∃ N : Nat, N = min l1.length 60 := ⟨_, rfl⟩
  obtain ⟨nl, hnl⟩ : ∃ n, l1.length = n := ⟨_, rfl⟩
  have hmin1 : ∀ w, (Builtin.min_ #[3, 3] 3 #[.int .i64 (nl : Int), .int .i64 60]).run Try.prog w = .ok (.int .i64 (N : Int)) w := fun w => run_min2 w _ _ nl 60 N (by rw [← hnl]; exact hN)
  obtain ⟨M, hM⟩ : ∃ M : Nat, M = min l2.length 40 := ⟨_, rfl⟩
  obtain ⟨ml, hml⟩ : ∃ n, l2.length = n := ⟨_, rfl⟩
  have hmin2 : ∀ w, (Builtin.min_ #[3, 3] 3 #[.int .i64 (ml : Int), .int .i64 40]).run Try.prog w = .ok (.int .i64 (M : Int)) w := fun w => run_min2 w _ _ ml 40 M (by rw [← hml]; exact hM)
  have hNc : N ≤ cl1 := by omega
  have hN2 : N ≤ 60 := by omega
  have hMc : M ≤ cl2 := by omega
  have hM2 : M ≤ 40 := by omega
  obtain ⟨L, hL⟩ : ∃ L, l1.take N = L := ⟨_, rfl⟩
  have hLN : L.length = N := by rw [← hL, List.length_take]; omega
  have OPS := Lib.hid (show Ops w w.heap.size Al1 L by rw [← hL]; exact hl1.take N)
  have HLN := Lib.hid hLN
  obtain ⟨L2, hL2⟩ : ∃ L, l2.take M = L := ⟨_, rfl⟩
  have hLM : L2.length = M := by rw [← hL2, List.length_take]; omega
  have OPT := Lib.hid (show Ops w w.heap.size Al2 L2 by rw [← hL2]; exact hl2.take M)
  have HLM := Lib.hid hLM
  obtain ⟨b1, hb1⟩ : ∃ b, few20 L 60 = b := ⟨_, rfl⟩
  have kf1 := Lib.hid (fun W (hW : Below w.heap.size w W) => few20_any Al1 L cl1 N 60 b1 W HLN.out (OPS.out.to hW) hNc hcl12 hb1)
  obtain ⟨b2, hb2⟩ : ∃ b, few20 L2 40 = b := ⟨_, rfl⟩
  have kf2 := Lib.hid (fun W (hW : Below w.heap.size w W) => few20_any Al2 L2 cl2 M 40 b2 W HLM.out (OPT.out.to hW) hMc hcl22 hb2)
  have hr0 := begG_right bs t
  have HR0 := Lib.hid hr0
  rw [hnl] at hcl1 ⊢
  rw [hml] at hcl2 ⊢
  clear sb hub ht hl1 hl2 hN hL hLN hb1 hnl hr0 hM hL2 hLM hb2 hml
  go_enter Try.func5, Try.ntmps5
  go_wp2_with fail
  with_reducible refine (kbeg.out _ (Below.refl _ _)).mono ?_
  rintro e1 w1 ⟨A1, c1, s1, rfl, i1, hb1⟩
  have HC1 := Lib.hid i1.C32
  have I1 := Lib.hid (i1.more (base' := 0) (Nat.zero_le _))
  have BZ := Lib.hid hb1
  have OF1 := Lib.hid (i1.off (.inr (Nat.le_refl _)))
  have hzw := hb1.size
  clear i1 hb1 kbeg
  go_upto_region 2 with (refine wpList_store_var rfl 35 (.tmp 9) (.tmp 21) rfl w1.heap.size (agC none 0 Stv.zero Ag0) (agC A1 c1 s1 (begG bs t)) 32 rfl rfl (new_agent w1) size_32 rfl HC1.out (agC_one _) ?_; intro w_3 r_3 k_3; have R_3 := Lib.hid r_3; have HB_3 : Hid (Below w1.heap.size w1 w_3) := Lib.hid (k_3.to (bel_alloc (Below.refl _ _) (.cells z32 35)) (Nat.le_refl _)); clear r_3 k_3)
  replace I1 := Lib.hid (I1.out.to HB_3.out)
  replace BZ := Lib.hid (BZ.out.trans (HB_3.out.mono BZ.out.size))
  obtain ⟨gA, hgA⟩ : ∃ gA, w1.heap.size = gA := ⟨_, rfl⟩
  have hwA : w.heap.size ≤ gA := by rw [← hgA]; omega
  have RA := R_3
  rw [hgA] at RA OF1 ⊢
  clear HB_3 R_3 hgA hzw
  try simp only [Act.put]
  go_quiet (fail)
  obtain ⟨wy, hwy⟩ : ∃ q, w_3.drewN nq = q := ⟨_, rfl⟩
  rw [hwy]
  have HBY : Hid (Below w_3.heap.size w_3 wy) := Lib.hid (by rw [← hwy]; exact bel_drewN (Below.refl _ _) nq)
  clear hwy hmin1 hmin2
  replace RA := Lib.hid (RA.out.to HBY.out)
  replace I1 := Lib.hid (I1.out.to HBY.out)
  replace BZ := Lib.hid (BZ.out.trans (HBY.out.mono BZ.out.size))
  clear HBY
  go_wp2_with fail
  with_reducible refine (kf1.out _ BZ.out).mono ?_
  rintro e2 w2 ⟨rfl, hq2⟩
  replace RA := Lib.hid (RA.out.to hq2)
  replace I1 := Lib.hid (I1.out.to hq2)
  replace BZ := Lib.hid (BZ.out.trans (hq2.mono BZ.out.size))
  clear hq2 kf1
  cases b1
  · go_wp2_with fail
    with_reducible refine (awake20_any _).mono ?_
    rintro e3 w3 ⟨rfl, hq3⟩
    have BZ3 := Lib.hid (BZ.out.trans (hq3.mono BZ.out.size))
    clear hq3
    go_wp2
    go_ret
    exact ⟨rfl, BZ3.out⟩
  go_wp2_with fail
  with_reducible refine (kf2.out _ BZ.out).mono ?_
  rintro e4 w4 ⟨rfl, hq4⟩
  replace RA := Lib.hid (RA.out.to hq4)
  replace I1 := Lib.hid (I1.out.to hq4)
  replace BZ := Lib.hid (BZ.out.trans (hq4.mono BZ.out.size))
  clear hq4 kf2
  cases b2
  · go_wp2_with fail
    with_reducible refine (awake20_any _).mono ?_
    rintro e3 w3 ⟨rfl, hq3⟩
    have BZ3 := Lib.hid (BZ.out.trans (hq3.mono BZ.out.size))
    clear hq3
    go_wp2
    go_ret
    exact ⟨rfl, BZ3.out⟩
  go_upto_region 6 with fail
  go_loopw [51] (fun i wr => ∃ k : Nat, ∃ (g : Ag) (Ak : Option Addr) (ck : Nat) (sk : Stv), k ≤ N ∧ i = .int .i64 (k : Int) ∧ Hid g.right ∧ Hid (RowAt wr gA 35 (agC Ak ck sk g)) ∧ Hid (AgIs Ak ck sk g wr 0) ∧ Hid (AgOff gA Ak sk g) ∧ Hid (Below w.heap.size w wr)) (fun i _ => N - (intOf i).toNat)
  case atStart => exact ⟨0, _, A1, c1, s1, by omega, rfl, HR0, RA, I1, OF1, BZ⟩
  case round =>
    rename World => wr
    clear RA I1 OF1 BZ HR0
    obtain ⟨k, g, Ak, ck, sk, hk, rfl, HR, RA, IA, OFA, BK⟩ := hrel
    by_cases hlt : k < N
    · have hltI : (k : Int) < (N : Int) := by omega
      have h0I : (0 : Int) ≤ (k : Int) := by omega
      have HCA := Lib.hid IA.out.C32
      have hlA := RA.out.lt
      obtain ⟨go, oo, v, rfl, hgo, hv, hok, hrg⟩ := (OPS.out.to BK.out).at_ (k := k) (by rw [HLN.out]; exact hlt)
      have HV := Lib.hid hv
      have HG := Lib.hid hrg
      have HOK := Lib.hid hok
      clear hv hok hrg hgo
      go_upto_region 8 with (first | (refine wpList_load_mid rfl 43 (.tmp 53) rfl go (oo + k * 10) rfl (opL v) _ HG.out Try.underlying43 rfl (by rw [size_op]; rfl) ?_) | (refine wpList_store_var rfl 43 (.tmp 12) (.tmp 54) rfl wr.heap.size _ (opL v) 10 rfl rfl (heap_alloc_new wr _) size_op rfl rfl (opL_one v) ?_; intro w_5 r_5 k_5; have RO := Lib.hid r_5; have HB_5 : Hid (Below wr.heap.size wr w_5) := Lib.hid (k_5.to (bel_alloc (Below.refl _ _) _) (Nat.le_refl _)); clear r_5 k_5))
      have HOK5 := Lib.hid (HOK.out.to HB_5.out)
      replace RA := Lib.hid (RA.out.to HB_5.out)
      replace IA := Lib.hid (IA.out.to HB_5.out)
      replace BK := Lib.hid (BK.out.trans (HB_5.out.mono BK.out.size))
      obtain ⟨gO, hgO⟩ : ∃ gO, wr.heap.size = gO := ⟨_, rfl⟩
      have hwO : gA < gO := by omega
      rw [hgO] at RO ⊢
      clear HB_5 hgO
      obtain ⟨XX, hX⟩ : ∃ XX, v.op.does g = XX := ⟨_, rfl⟩
      have kd := Lib.hid (does_any w_5 IA.out HR.out v HOK5.out)
      rw [hX] at kd
      have HRN : Hid (XX.1.right) := Lib.hid (by rw [← hX]; exact AOp.does_right _ HR.out IA.out.S8)
      clear hX
      try simp only [Act.put]
      go_wp2_with (first | (refine wpList_load_var rfl 35 (.tmp 9) rfl (gA) rfl _ _ 32 RA.out Try.underlying35 rfl size_32 HCA.out ?_) | (refine wpList_load_var rfl 43 (.tmp 12) rfl gO rfl _ _ 10 RO.out Try.underlying43 rfl size_op rfl ?_))
      with_reducible refine (kd.out).mono ?_
      rintro e6 w6 ⟨A6, c6, s6, rfl, i6, of6, hb6⟩
      have IN := Lib.hid i6
      have HCN := Lib.hid i6.C32
      have OFN := Lib.hid (of6 gA (by have := RA.out.lt; omega) OFA.out)
      replace RA := Lib.hid (RA.out.to hb6)
      replace BK := Lib.hid (BK.out.trans (hb6.mono BK.out.size))
      have HCO := HCA
      clear i6 of6 hb6 kd HOK5 HOK RO
      go_upto_region 9 with (refine wpList_store_var rfl 35 (.tmp 9) (.tmp 59) rfl (gA) _ (agC A6 c6 s6 XX.1) 32 rfl rfl RA.out size_32 (by first | rfl | exact HCO.out) HCN.out (agC_one _) ?_; intro w_8 r_8 k_8; have R_8 := Lib.hid r_8; have K_8 := Lib.hid k_8; clear r_8 k_8)
      go_wp2
      go_roundw
      case rel => exact ⟨k + 1, XX.1, A6, c6, s6, by omega, by go_num, HRN, R_8, Lib.hid (IN.out.onlyO K_8.out OFN.out), OFN, Lib.hid (K_8.out.to BK.out hwA)⟩
      case measure => simp [intOf]; omega
    obtain rfl : k = N := by omega
    clear hlt
    have a3 : wr.cell? ⟨gA, 3, none⟩ = some (.int .u8 (g.ph : Int)) := RA.out.cells 3
    have BZ := BK
    have HCA := Lib.hid IA.out.C32
    by_cases hp : g.ph = 0
    · have gp : ((g.ph : Int) == 0) = true := by simp [hp]
      clear hp
      go_wp2_with fail
      with_reducible refine (awake20_any _).mono ?_
      rintro e3 w3 ⟨rfl, hq3⟩
      have BZ3 := Lib.hid (BZ.out.trans (hq3.mono BZ.out.size))
      clear hq3
      go_wp2
      go_ret
      exact ⟨rfl, BZ3.out⟩
    have gp : ((g.ph : Int) == 0) = false := beq_eq_false_iff_ne.2 (by omega)
    have HP := Lib.hid hp
    clear hp
    go_upto_region 13 with fail
    clear a3 gp
    obtain ⟨wl, hwl⟩ : ∃ wl, wl = wr := ⟨_, rfl⟩
    have hwA2 := RA.out.lt
    go_loopw [68] (fun i ws => ∃ j : Nat, j ≤ M ∧ i = .int .i64 (j : Int) ∧ Hid (Below wr.heap.size wr ws)) (fun i _ => M - (intOf i).toNat)
    case atStart => exact ⟨0, by omega, rfl, Lib.hid (Below.refl _ _)⟩
    case round =>
      obtain ⟨j, hj, rfl, BL⟩ := hrel
      rename World => ws
      have BKS := Lib.hid (BK.out.trans (BL.out.mono BK.out.size))
      by_cases hlt : j < M
      rotate_left
      · obtain rfl : j = M := by omega
        have BZ := BKS
        go_upto_region 22 with fail
        go_wp2_with fail
        with_reducible refine (awake20_any _).mono ?_
        rintro e3 w3 ⟨rfl, hq3⟩
        have BZ3 := Lib.hid (BZ.out.trans (hq3.mono BZ.out.size))
        clear hq3
        go_wp2
        go_ret
        exact ⟨rfl, BZ3.out⟩
      have hltI : (j : Int) < (M : Int) := by omega
      have h0I : (0 : Int) ≤ (j : Int) := by omega
      have RAs := Lib.hid (RA.out.to BL.out)
      have IAs := Lib.hid (IA.out.to BL.out)
      have hlA := RAs.out.lt
      have hlB := BL.out.size
      obtain ⟨go, oo, v, rfl, hgo, hv, hok, hrg⟩ := (OPT.out.to BKS.out).at_ (k := j) (by rw [HLM.out]; exact hlt)
      have HV := Lib.hid hv
      have HG := Lib.hid hrg
      have HOK := Lib.hid hok
      clear hv hok hrg hgo
      go_upto_region 15 with (first | (refine wpList_load_mid rfl 43 (.tmp 70) rfl go (oo + j * 10) rfl (opL v) _ HG.out Try.underlying43 rfl (by rw [size_op]; rfl) ?_) | (refine wpList_store_var rfl 43 (.tmp 14) (.tmp 71) rfl ws.heap.size _ (opL v) 10 rfl rfl (heap_alloc_new ws _) size_op rfl rfl (opL_one v) ?_; intro w_5 r_5 k_5; have RO := Lib.hid r_5; have HB_5 : Hid (Below ws.heap.size ws w_5) := Lib.hid (k_5.to (bel_alloc (Below.refl _ _) _) (Nat.le_refl _)); clear r_5 k_5))
      have HOK5 := Lib.hid (HOK.out.to HB_5.out)
      replace RAs := Lib.hid (RAs.out.to HB_5.out)
      replace IAs := Lib.hid (IAs.out.to HB_5.out)
      replace BKS := Lib.hid (BKS.out.trans (HB_5.out.mono BKS.out.size))
      replace BL := Lib.hid (BL.out.trans (HB_5.out.mono BL.out.size))
      obtain ⟨gO, hgO⟩ : ∃ gO, ws.heap.size = gO := ⟨_, rfl⟩
      have hwO : gA < gO ∧ wr.heap.size ≤ gO := ⟨by omega, by omega⟩
      have hgOe : ws.heap.size ≤ gO := by omega
      rw [hgO] at RO ⊢
      clear HB_5 hgO
      try simp only [Act.put]
      obtain ⟨wh, ⟨ow, vb, tx, cn, ck2⟩, good, nn, x⟩ := v
      obtain ⟨m, hm⟩ : ∃ m, wh % 2 = m := ⟨_, rfl⟩
      have hmI : (wh : Int) % 2 = (m : Int) := by omega
      have olt : gO < (w_5).heap.size := RO.out.lt
      have olu : gO < (w_5).heap.size + 1 := Nat.lt_succ_of_lt RO.out.lt
      have o0 : (w_5).cell? ⟨gO, 0, none⟩ = some (.int .u8 (wh : Int)) := RO.out.cells 0
      have oz0 : (w_5).frozen? ⟨gO, 0, none⟩ = false := RO.out.frozen 0
      have o1 : (w_5).cell? ⟨gO, 1, none⟩ = some (.int .u16 (ow : Int)) := RO.out.cells 1
      have oz1 : (w_5).frozen? ⟨gO, 1, none⟩ = false := RO.out.frozen 1
      have a1 : w_5.cell? ⟨gA, 1, none⟩ = some (.int .u16 (g.l.o : Int)) := RAs.out.cells 1
      go_upto_region 16 with fail
      try rw [hmI]
      obtain ⟨w_6, hw_6⟩ : ∃ w_q_, w_q_ = w_5.setCell ⟨gO, 0, none⟩ (.int .u8 (m : Int)) := ⟨_, rfl⟩
      rw [← hw_6]
      have k6 : Only gO w_5 w_6 := by rw [hw_6]; exact (Only.refl _ _).set _
      have RO6 : Hid (RowAt w_6 gO 43 (opL ⟨m, ⟨ow, vb, tx, cn, ck2⟩, good, nn, x⟩)) := Lib.hid (by rw [hw_6]; exact RO.out.set 0 _)
      have HX6 : Hid (x.Ok w_5 w_5.heap.size) := Lib.hid HOK5.out.x
      have HF6 := Lib.hid HOK5.out.c
      have HN6 := Lib.hid HOK5.out.n
      have IA6 := Lib.hid ((IA.out.off (b := gO) (.inr hwO.2)))
      have RA6 := Lib.hid (RAs.out.only k6 (by omega))
      have K6 := Lib.hid k6
      have how : ow < 65536 := HF6.out.ow
      clear hw_6 k6 o0 o1 oz0 oz1 olt olu a1 hmI
      have olt : gO < (w_6).heap.size := RO6.out.lt
      have olu : gO < (w_6).heap.size + 1 := Nat.lt_succ_of_lt RO6.out.lt
      have o0 : (w_6).cell? ⟨gO, 0, none⟩ = some (.int .u8 (m : Int)) := RO6.out.cells 0
      have oz0 : (w_6).frozen? ⟨gO, 0, none⟩ = false := RO6.out.frozen 0
      have o1 : (w_6).cell? ⟨gO, 1, none⟩ = some (.int .u16 (ow : Int)) := RO6.out.cells 1
      have oz1 : (w_6).frozen? ⟨gO, 1, none⟩ = false := RO6.out.frozen 1
      have a1 : w_6.cell? ⟨gA, 1, none⟩ = some (.int .u16 (g.l.o : Int)) := RA6.out.cells 1
      go_upto_if 82 with fail
      go_cut [] (fun wx => ∃ ow' : Nat, ow' ≠ g.l.o ∧ ow' < 65536 ∧ Hid (RowAt wx gO 43 (opL ⟨m, ⟨ow', vb, tx, cn, ck2⟩, good, nn, x⟩)) ∧ Hid (Only gO w_6 wx))
      case first =>
        by_cases he : ow = g.l.o
        · have ge : ((ow : Int) == (g.l.o : Int)) = true := by simp [he]
          have hlo : g.l.o < 65536 := IA.out.o
          obtain ⟨z, hz⟩ : ∃ z, (ow + 1) % 65536 = z := ⟨_, rfl⟩
          have hzI : IntKind.u16.wrap ((ow : Int) + 1) = (z : Int) := by
            have : IntKind.u16.wrap ((ow : Int) + 1) = ((ow : Int) + 1) % 65536 := by simp [IntKind.wrap, IntKind.bits, IntKind.signed]
            omega
          have hzn : z ≠ g.l.o ∧ z < 65536 := by omega
          clear he hz
          go_wp2
          try rw [hzI]
          go_meet
          case rel => exact ⟨z, hzn.1, hzn.2, Lib.hid (RO6.out.set 1 _), Lib.hid ((Only.refl _ _).set _)⟩
        · have ge : ((ow : Int) == (g.l.o : Int)) = false := beq_eq_false_iff_ne.2 (by omega)
          go_wp2
          go_meet
          case rel => exact ⟨ow, he, how, RO6, Lib.hid (Only.refl _ _)⟩
      case rest =>
      obtain ⟨ow', hne, hlt', RO7, K7⟩ := hcut
      rename World => w_7
      have hk7 := Only.trans K6.out K7.out
      have OFX : 0 < x.ws.length → ∀ p, x.A = some p → p.block ≠ gO := fun hn p hp e => by
        obtain ⟨b', o', hA, hb, _⟩ := HOK.out.x.sq hn
        rw [hA] at hp
        obtain rfl := Option.some.inj hp
        simp only at e
        omega
      have HX7 : Hid (x.Ok w_7 w_7.heap.size) := Lib.hid ⟨HX6.out.sq.onlyO hk7 OFX, HX6.out.u, HX6.out.lo, HX6.out.hi, HX6.out.ln, HX6.out.cap, HX6.out.nl⟩
      have RA7 := Lib.hid (RAs.out.only hk7 (by omega))
      have IA7 := Lib.hid (IAs.out.onlyO hk7 IA6.out)
      have HVO : Hid ((⟨m, ⟨ow', vb, tx, cn, ck2⟩, good, nn, x⟩ : OV).Ok w_7 w_7.heap.size) := Lib.hid ⟨(show m < 256 by omega), ⟨hlt', HF6.out.v, HF6.out.tx, HF6.out.n, HF6.out.ck⟩, HN6.out, HX7.out⟩
      have BL7 := Lib.hid (hk7.to BL.out hwO.2)
      have BK7 := Lib.hid (hk7.to BKS.out (by omega))
      have hm01 : m = 0 ∨ m = 1 := by omega
      obtain ⟨XX, hX⟩ : ∃ XX, (⟨m, ⟨ow', vb, tx, cn, ck2⟩, good, nn, x⟩ : OV).op.does g = XX := ⟨_, rfl⟩
      have kd := Lib.hid (does_any w_7 IA7.out HR.out _ HVO.out)
      rw [hX] at kd
      have hot : XX = (g, 22) ∨ XX = (g, 2) := by rw [← hX]; exact does_other (o := (⟨m, ⟨ow', vb, tx, cn, ck2⟩, good, nn, x⟩ : OV).op) HR.out HP.out hm01 hne
      have HOT := Lib.hid hot
      clear hX hot hk7 OFX HX7 HVO RO6 HX6 HF6 HN6 RA6 K6 K7 IA6 RAs IAs BL BKS RO HOK5 o0 o1 oz0 oz1 olt olu a1
      go_wp2_with (first | (refine wpList_load_var rfl 35 (.tmp 9) rfl (gA) rfl _ _ 32 RA7.out Try.underlying35 rfl size_32 HCA.out ?_) | (refine wpList_load_var rfl 43 (.tmp 14) rfl gO rfl _ _ 10 RO7.out Try.underlying43 rfl size_op rfl ?_))
      with_reducible refine (kd.out).mono ?_
      rintro e8 w8 ⟨A8, c8, s8, rfl, i8, of8, hb8⟩
      have IN := Lib.hid i8
      have HCN := Lib.hid i8.C32
      replace RA7 := Lib.hid (RA7.out.to hb8)
      replace IA7 := Lib.hid (IA7.out.to hb8)
      replace BL7 := Lib.hid (BL7.out.trans (hb8.mono BL7.out.size))
      replace BK7 := Lib.hid (BK7.out.trans (hb8.mono BK7.out.size))
      clear i8 of8 hb8 kd RO7
      go_upto_region 19 with (refine wpList_store_var rfl 35 (.tmp 15) (.tmp 93) rfl w8.heap.size (agC none 0 Stv.zero Ag0) (agC A8 c8 s8 XX.1) 32 rfl rfl (new_agent w8) size_32 rfl HCN.out (agC_one _) ?_; intro w_9 r_9 k_9; have R_9 := Lib.hid r_9; have HB_9 : Hid (Below w8.heap.size w8 w_9) := Lib.hid (k_9.to (bel_alloc (Below.refl _ _) (.cells z32 35)) (Nat.le_refl _)); clear r_9 k_9)
      replace RA7 := Lib.hid (RA7.out.to HB_9.out)
      replace IA7 := Lib.hid (IA7.out.to HB_9.out)
      replace IN := Lib.hid (IN.out.to HB_9.out)
      replace BL7 := Lib.hid (BL7.out.trans (HB_9.out.mono BL7.out.size))
      replace BK7 := Lib.hid (BK7.out.trans (HB_9.out.mono BK7.out.size))
      obtain ⟨gN, hgN⟩ : ∃ gN, w8.heap.size = gN := ⟨_, rfl⟩
      have RN := R_9
      rw [hgN] at RN ⊢
      clear HB_9 R_9 hgN
      try simp only [Act.put]
      have ks := Lib.hid (agsame_any true w_9 IN.out IA7.out (by rcases HOT.out with h | h <;> simp [h]))
      rcases HOT.out with rfl | rfl
      · go_wp2_with (first | (refine wpList_load_var (by kernel_rfl) 35 (.tmp 15) rfl gN rfl _ _ 32 RN.out Try.underlying35 rfl size_32 HCN.out ?_) | (refine wpList_load_var (by kernel_rfl) 35 (.tmp 9) rfl gA rfl _ _ 32 RA7.out Try.underlying35 rfl size_32 HCA.out ?_))
        with_reducible refine (ks.out).mono ?_
        rintro e10 w10 ⟨rfl, hb10⟩
        have B10 := Lib.hid (BL7.out.trans (hb10.mono BL7.out.size))
        clear hb10
        go_wp2
        go_roundw
        case rel => exact ⟨j + 1, by omega, by go_num, B10⟩
        case measure => simp [intOf]; omega
      · go_wp2_with (first | (refine wpList_load_var (by kernel_rfl) 35 (.tmp 15) rfl gN rfl _ _ 32 RN.out Try.underlying35 rfl size_32 HCN.out ?_) | (refine wpList_load_var (by kernel_rfl) 35 (.tmp 9) rfl gA rfl _ _ 32 RA7.out Try.underlying35 rfl size_32 HCA.out ?_))
        with_reducible refine (ks.out).mono ?_
        rintro e10 w10 ⟨rfl, hb10⟩
        have B10 := Lib.hid (BL7.out.trans (hb10.mono BL7.out.size))
        clear hb10
        go_wp2
        go_roundw
        case rel => exact ⟨j + 1, by omega, by go_num, B10⟩
        case measure => simp [intOf]; omega
end Go.Proofs.Ytajbghjjpebndaa
