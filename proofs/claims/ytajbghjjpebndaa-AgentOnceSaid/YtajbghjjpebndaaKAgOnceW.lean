/- The walk of saucierlaw20.AgentOnce. -/
import Derived.Test.YtajbghjjpebndaaQ29
import Derived.Test.YtajbghjjpebndaaQ30
namespace Go.Proofs.Ytajbghjjpebndaa
set_option maxRecDepth 100000
open Go.RowKit
set_option linter.unusedVariables false
set_option linter.unusedSimpArgs false
attribute [local go_sem] Later.cell Later.frozen setCell_twice
attribute [local go_sem high] sliced_zero
set_option maxHeartbeats 4000000 in
theorem once_walk (bs : List Nat) (Ab : Option Addr) (cb t : Nat) (l : List OV) (Al : Option Addr) (cl : Nat) (w : World) (sb : Sq u16w w w.heap.size Ab bs) (hub : ∀ x ∈ bs, x < 65536) (ht : t < 256) (hl : Ops w w.heap.size Al l) (hcl : l.length ≤ cl) (hcl2 : cl ≤ 9223372036854775807) :
    Calls Try.prog 3 #[.slice Ab bs.length cb, .int .u8 (t : Int), .slice Al l.length cl] w fun e w' => e = .returned (.bool true) ∧ Below w.heap.size w w' := by
  have kbeg := Lib.hid (fun W (hW : Below w.heap.size w W) => begun_any Ab bs bs.length cb t W rfl ((sb.below hW).more hW.size) hub ht)
  obtain ⟨N, hN⟩ : ∃ N : Nat, N = min l.length 150 := ⟨_, rfl⟩
  obtain ⟨nl, hnl⟩ : ∃ n, l.length = n := ⟨_, rfl⟩
  have hmin : ∀ w, (Builtin.min_ #[3, 3] 3 #[.int .i64 (nl : Int), .int .i64 150]).run Try.prog w = .ok (.int .i64 (N : Int)) w := fun w => run_min2 w _ _ nl 150 N (by rw [← hnl]; exact hN)
  have hNc : N ≤ cl := by omega
  have hN2 : N ≤ 150 := by omega
  obtain ⟨L, hL⟩ : ∃ L, l.take N = L := ⟨_, rfl⟩
  have hLN : L.length = N := by rw [← hL, List.length_take]; omega
  have OPS := Lib.hid (show Ops w w.heap.size Al L by rw [← hL]; exact hl.take N)
  have HLN := Lib.hid hLN
  obtain ⟨b, hb⟩ : ∃ b, few20 L 150 = b := ⟨_, rfl⟩
  have kf := Lib.hid (fun W (hW : Below w.heap.size w W) => few20_any Al L cl N 150 b W HLN.out (OPS.out.to hW) hNc hcl2 hb)
  have hr0 := begG_right bs t
  have HR0 := Lib.hid hr0
  rw [hnl] at hcl ⊢
  clear sb hub ht hl hN hL hLN hb hnl hr0
  go_enter Try.func3, Try.ntmps3
  go_wp2_with fail
  with_reducible refine (kbeg.out _ (Below.refl _ _)).mono ?_
  rintro e1 w1 ⟨A1, c1, s1, rfl, i1, hb1⟩
  have HC1 := Lib.hid i1.C32
  have I1 := Lib.hid (i1.more (base' := 0) (Nat.zero_le _))
  have BZ := Lib.hid hb1
  have OF1 := Lib.hid (i1.off (.inr (Nat.le_refl _)))
  have hzw := hb1.size
  clear i1 hb1 kbeg
  go_upto_region 2 with (refine wpList_store_var rfl 35 (.tmp 7) (.tmp 20) rfl w1.heap.size (agC none 0 Stv.zero Ag0) (agC A1 c1 s1 (begG bs t)) 32 rfl rfl (new_agent w1) size_32 rfl HC1.out (agC_one _) ?_; intro w_3 r_3 k_3; have R_3 := Lib.hid r_3; have HB_3 : Hid (Below w1.heap.size w1 w_3) := Lib.hid (k_3.to (bel_alloc (Below.refl _ _) (.cells z32 35)) (Nat.le_refl _)); clear r_3 k_3)
  replace I1 := Lib.hid (I1.out.to HB_3.out)
  replace BZ := Lib.hid (BZ.out.trans (HB_3.out.mono BZ.out.size))
  obtain ⟨gA, hgA⟩ : ∃ gA, w1.heap.size = gA := ⟨_, rfl⟩
  have hwA : w.heap.size ≤ gA := by rw [← hgA]; omega
  have RA := R_3
  rw [hgA] at RA OF1 ⊢
  clear HB_3 R_3 hgA hzw
  try simp only [Act.put]
  go_wp2_with fail
  with_reducible refine (kf.out _ BZ.out).mono ?_
  rintro e2 w2 ⟨rfl, hq2⟩
  replace RA := Lib.hid (RA.out.to hq2)
  replace I1 := Lib.hid (I1.out.to hq2)
  replace BZ := Lib.hid (BZ.out.trans (hq2.mono BZ.out.size))
  clear hq2 kf hmin
  cases b
  · go_wp2_with fail
    with_reducible refine (awake20_any _).mono ?_
    rintro e3 w3 ⟨rfl, hq3⟩
    have BZ3 := Lib.hid (BZ.out.trans (hq3.mono BZ.out.size))
    clear hq3
    go_wp2
    go_ret
    exact ⟨rfl, BZ3.out⟩
  go_upto_region 8 with fail
  go_loopw [35] (fun i wr => ∃ k : Nat, ∃ (g : Ag) (Ak : Option Addr) (ck : Nat) (sk : Stv), k ≤ N ∧ i = .int .i64 (k : Int) ∧ Hid g.right ∧ Hid (RowAt wr gA 35 (agC Ak ck sk g)) ∧ Hid (AgIs Ak ck sk g wr 0) ∧ Hid (AgOff gA Ak sk g) ∧ Hid (Below w.heap.size w wr)) (fun i _ => N - (intOf i).toNat)
  case atStart => exact ⟨0, _, A1, c1, s1, by omega, rfl, HR0, RA, I1, OF1, BZ⟩
  case round =>
    rename World => wr
    clear RA I1 OF1 BZ HR0
    obtain ⟨k, g, Ak, ck, sk, hk, rfl, HR, RA, IA, OFA, BK⟩ := hrel
    by_cases hlt : k < N
    rotate_left
    · obtain rfl : k = N := by omega
      go_upto_region 23 with fail
      go_wp2_with fail
      with_reducible refine (awake20_any _).mono ?_
      rintro e3 w3 ⟨rfl, hq3⟩
      have BZ3 := Lib.hid (BK.out.trans (hq3.mono BK.out.size))
      clear hq3
      go_wp2
      go_ret
      exact ⟨rfl, BZ3.out⟩
    have hltI : (k : Int) < (N : Int) := by omega
    have h0I : (0 : Int) ≤ (k : Int) := by omega
    have HCA := Lib.hid IA.out.C32
    have hlA := RA.out.lt
    obtain ⟨go, oo, v, rfl, hgo, hv, hok, hrg⟩ := (OPS.out.to BK.out).at_ (k := k) (by rw [HLN.out]; exact hlt)
    have HV := Lib.hid hv
    have HG := Lib.hid hrg
    have HOK := Lib.hid hok
    clear hv hok hrg hgo
    go_upto_region 10 with (first | (refine wpList_load_mid rfl 43 (.tmp 37) rfl go (oo + k * 10) rfl (opL v) _ HG.out Try.underlying43 rfl (by rw [size_op]; rfl) ?_) | (refine wpList_store_var rfl 43 (.tmp 10) (.tmp 38) rfl wr.heap.size _ (opL v) 10 rfl rfl (heap_alloc_new wr _) size_op rfl rfl (opL_one v) ?_; intro w_5 r_5 k_5; have RO := Lib.hid r_5; have HB_5 : Hid (Below wr.heap.size wr w_5) := Lib.hid (k_5.to (bel_alloc (Below.refl _ _) _) (Nat.le_refl _)); clear r_5 k_5))
    have HOK5 := Lib.hid (HOK.out.to HB_5.out)
    replace RA := Lib.hid (RA.out.to HB_5.out)
    replace IA := Lib.hid (IA.out.to HB_5.out)
    replace BK := Lib.hid (BK.out.trans (HB_5.out.mono BK.out.size))
    obtain ⟨gO, hgO⟩ : ∃ gO, wr.heap.size = gO := ⟨_, rfl⟩
    have hwO : gA < gO := by omega
    rw [hgO] at RO ⊢
    clear HB_5 hgO
    obtain ⟨XX, hX⟩ : ∃ XX, v.op.does g = XX := ⟨_, rfl⟩
    have kd := Lib.hid (does_any w_5 IA.out HR.out v HOK5.out)
    rw [hX] at kd
    have HX := Lib.hid hX
    have HRN : Hid (XX.1.right) := Lib.hid (by rw [← hX]; exact AOp.does_right _ HR.out IA.out.S8)
    clear hX
    try simp only [Act.put]
    go_wp2_with (first | (refine wpList_load_var rfl 35 (.tmp 7) rfl (gA) rfl _ _ 32 RA.out Try.underlying35 rfl size_32 HCA.out ?_) | (refine wpList_load_var rfl 43 (.tmp 10) rfl gO rfl _ _ 10 RO.out Try.underlying43 rfl size_op rfl ?_))
    with_reducible refine (kd.out).mono ?_
    rintro e6 w6 ⟨A6, c6, s6, rfl, i6, of6, hb6⟩
    have IN := Lib.hid i6
    have HCN := Lib.hid i6.C32
    have OFN := Lib.hid (of6 gA (by have := RA.out.lt; omega) OFA.out)
    replace RA := Lib.hid (RA.out.to hb6)
    replace IA := Lib.hid (IA.out.to hb6)
    replace RO := Lib.hid (RO.out.to hb6)
    replace BK := Lib.hid (BK.out.trans (hb6.mono BK.out.size))
    clear i6 of6 hb6 kd HOK5 HOK
    go_upto_region 11 with (refine wpList_store_var rfl 35 (.tmp 11) (.tmp 43) rfl w6.heap.size (agC none 0 Stv.zero Ag0) (agC A6 c6 s6 XX.1) 32 rfl rfl (new_agent w6) size_32 rfl HCN.out (agC_one _) ?_; intro w_7 r_7 k_7; have R_7 := Lib.hid r_7; have HB_7 : Hid (Below w6.heap.size w6 w_7) := Lib.hid (k_7.to (bel_alloc (Below.refl _ _) (.cells z32 35)) (Nat.le_refl _)); clear r_7 k_7)
    replace RA := Lib.hid (RA.out.to HB_7.out)
    replace IA := Lib.hid (IA.out.to HB_7.out)
    replace RO := Lib.hid (RO.out.to HB_7.out)
    replace IN := Lib.hid (IN.out.to HB_7.out)
    replace BK := Lib.hid (BK.out.trans (HB_7.out.mono BK.out.size))
    obtain ⟨gN, hgN⟩ : ∃ gN, w6.heap.size = gN := ⟨_, rfl⟩
    have RN := R_7
    rw [hgN] at RN ⊢
    clear HB_7 R_7 hgN
    try simp only [Act.put]
    have kr := Lib.hid (agright_any true w_7 IN.out (by simpa using HRN.out))
    -- an error: nothing is changed
    go_cut [57] (fun x wx => x = .bool false ∧ Hid (Below w_7.heap.size w_7 wx))
    case first =>
      go_wp2_with (refine wpList_load_var rfl 35 (.tmp 11) rfl (gN) rfl _ _ 32 RN.out Try.underlying35 rfl size_32 HCN.out ?_)
      with_reducible refine (kr.out).mono ?_
      rintro e8 w8 ⟨rfl, hb8⟩
      replace RA := Lib.hid (RA.out.to hb8)
      replace IA := Lib.hid (IA.out.to hb8)
      replace RN := Lib.hid (RN.out.to hb8)
      replace IN := Lib.hid (IN.out.to hb8)
      have B8 := Lib.hid hb8
      clear hb8 kr
      by_cases he : XX.2 = 0
      · have ge : (XX.2 != 0) = false := by simp [he]
        clear he
        go_wp2
        go_meet
        case rel => exact ⟨rfl, B8⟩
      · have ge : (XX.2 != 0) = true := bne_iff_ne.2 he
        have ks := Lib.hid (agsame_any true w8 IN.out IA.out (by simp only [true_iff]; rw [← HX.out]; exact does_err (by rw [HX.out]; exact he)))
        clear he
        go_wp2_with (first | (refine wpList_load_var (by kernel_rfl) 35 (.tmp 11) rfl gN rfl _ _ 32 RN.out Try.underlying35 rfl size_32 HCN.out ?_) | (refine wpList_load_var (by kernel_rfl) 35 (.tmp 7) rfl gA rfl _ _ 32 RA.out Try.underlying35 rfl size_32 HCA.out ?_))
        with_reducible refine (ks.out).mono ?_
        rintro e9 w9 ⟨rfl, hb9⟩
        have B9 := Lib.hid (B8.out.trans (hb9.mono B8.out.size))
        clear hb9
        go_wp2
        go_meet
        case rel => exact ⟨rfl, B9⟩
    case rest =>
    obtain ⟨rfl, HB9⟩ := hcut
    replace RA := Lib.hid (RA.out.to HB9.out)
    replace IA := Lib.hid (IA.out.to HB9.out)
    replace RO := Lib.hid (RO.out.to HB9.out)
    replace IN := Lib.hid (IN.out.to HB9.out)
    replace RN := Lib.hid (RN.out.to HB9.out)
    replace BK := Lib.hid (BK.out.trans (HB9.out.mono BK.out.size))
    clear HB9 kr
    rename World => w9
    have alt : gA < (w9).heap.size := RA.out.lt
    have alu : gA < (w9).heap.size + 1 := Nat.lt_succ_of_lt RA.out.lt
    have a0 : (w9).cell? ⟨gA, 0, none⟩ = some (.slice Ak g.bank.length ck) := RA.out.cells 0
    have az0 : (w9).frozen? ⟨gA, 0, none⟩ = false := RA.out.frozen 0
    have a1 : (w9).cell? ⟨gA, 1, none⟩ = some (.int .u16 (g.l.o : Int)) := RA.out.cells 1
    have az1 : (w9).frozen? ⟨gA, 1, none⟩ = false := RA.out.frozen 1
    have a2 : (w9).cell? ⟨gA, 2, none⟩ = some (.int .i64 g.l.l) := RA.out.cells 2
    have az2 : (w9).frozen? ⟨gA, 2, none⟩ = false := RA.out.frozen 2
    have a3 : (w9).cell? ⟨gA, 3, none⟩ = some (.int .u8 (g.ph : Int)) := RA.out.cells 3
    have az3 : (w9).frozen? ⟨gA, 3, none⟩ = false := RA.out.frozen 3
    have a4 : (w9).cell? ⟨gA, 4, none⟩ = some (.int .u32 (g.tx : Int)) := RA.out.cells 4
    have az4 : (w9).frozen? ⟨gA, 4, none⟩ = false := RA.out.frozen 4
    have a5 : (w9).cell? ⟨gA, 5, none⟩ = some (.int .u32 (g.la : Int)) := RA.out.cells 5
    have az5 : (w9).frozen? ⟨gA, 5, none⟩ = false := RA.out.frozen 5
    have olt : gO < (w9).heap.size := RO.out.lt
    have olu : gO < (w9).heap.size + 1 := Nat.lt_succ_of_lt RO.out.lt
    have o0 : (w9).cell? ⟨gO, 0, none⟩ = some (.int .u8 (v.what : Int)) := RO.out.cells 0
    have oz0 : (w9).frozen? ⟨gO, 0, none⟩ = false := RO.out.frozen 0
    have o1 : (w9).cell? ⟨gO, 1, none⟩ = some (.int .u16 (v.c.ow : Int)) := RO.out.cells 1
    have oz1 : (w9).frozen? ⟨gO, 1, none⟩ = false := RO.out.frozen 1
    have o2 : (w9).cell? ⟨gO, 2, none⟩ = some (.int .u8 (v.c.v : Int)) := RO.out.cells 2
    have oz2 : (w9).frozen? ⟨gO, 2, none⟩ = false := RO.out.frozen 2
    have o3 : (w9).cell? ⟨gO, 3, none⟩ = some (.int .u32 (v.c.tx : Int)) := RO.out.cells 3
    have oz3 : (w9).frozen? ⟨gO, 3, none⟩ = false := RO.out.frozen 3
    have nlt : gN < (w9).heap.size := RN.out.lt
    have nlu : gN < (w9).heap.size + 1 := Nat.lt_succ_of_lt RN.out.lt
    have n0 : (w9).cell? ⟨gN, 0, none⟩ = some (.slice A6 XX.1.bank.length c6) := RN.out.cells 0
    have nz0 : (w9).frozen? ⟨gN, 0, none⟩ = false := RN.out.frozen 0
    have n1 : (w9).cell? ⟨gN, 1, none⟩ = some (.int .u16 (XX.1.l.o : Int)) := RN.out.cells 1
    have nz1 : (w9).frozen? ⟨gN, 1, none⟩ = false := RN.out.frozen 1
    have n2 : (w9).cell? ⟨gN, 2, none⟩ = some (.int .i64 XX.1.l.l) := RN.out.cells 2
    have nz2 : (w9).frozen? ⟨gN, 2, none⟩ = false := RN.out.frozen 2
    have n3 : (w9).cell? ⟨gN, 3, none⟩ = some (.int .u8 (XX.1.ph : Int)) := RN.out.cells 3
    have nz3 : (w9).frozen? ⟨gN, 3, none⟩ = false := RN.out.frozen 3
    have n4 : (w9).cell? ⟨gN, 4, none⟩ = some (.int .u32 (XX.1.tx : Int)) := RN.out.cells 4
    have nz4 : (w9).frozen? ⟨gN, 4, none⟩ = false := RN.out.frozen 4
    have n5 : (w9).cell? ⟨gN, 5, none⟩ = some (.int .u32 (XX.1.la : Int)) := RN.out.cells 5
    have nz5 : (w9).frozen? ⟨gN, 5, none⟩ = false := RN.out.frozen 5
    obtain ⟨cm, hcm⟩ : ∃ cm : Bool, cm = true ↔ v.op.commits g := by classical exact ⟨decide (v.op.commits g), by simp⟩
    go_upto_region 13 with fail
    go_cut [13] (fun x wx => x = .bool cm ∧ w9 = wx)
    case first =>
      have hno : ¬ v.op.commits g → cm = false := no_of hcm
      by_cases t1 : v.what % 4 = 0
      rotate_left
      · have u1 : ((v.what : Int) % 4 == 0) = false := beq_eq_false_iff_ne.2 (by omega)
        obtain rfl := hno (fun q => t1 q.1)
        clear t1
        clear hno hcm
        go_wp2
        go_meet
        case rel => exact ⟨rfl, rfl⟩
      have u1 : ((v.what : Int) % 4 == 0) = true := beq_iff_eq.2 (by omega)
      by_cases t2 : v.c.v = 3
      rotate_left
      · have u2 : ((v.c.v : Int) == 3) = false := beq_eq_false_iff_ne.2 (by omega)
        obtain rfl := hno (fun q => t2 q.2.1)
        clear t1 t2
        clear hno hcm
        go_wp2
        go_meet
        case rel => exact ⟨rfl, rfl⟩
      have u2 : ((v.c.v : Int) == 3) = true := beq_iff_eq.2 (by omega)
      by_cases t3 : XX.2 = 0
      rotate_left
      · have u3 : (XX.2 == 0) = false := beq_eq_false_iff_ne.2 t3
        obtain rfl := hno (fun q => t3 (by rw [← HX.out]; exact q.2.2.1))
        clear t1 t2 t3
        clear hno hcm
        go_wp2
        go_meet
        case rel => exact ⟨rfl, rfl⟩
      have u3 : (XX.2 == 0) = true := beq_iff_eq.2 t3
      by_cases t4 : g.ph = 2
      rotate_left
      · have u4 : ((g.ph : Int) == 2) = false := beq_eq_false_iff_ne.2 (by omega)
        obtain rfl := hno (fun q => t4 q.2.2.2.1)
        clear t1 t2 t3 t4
        clear hno hcm
        go_wp2
        go_meet
        case rel => exact ⟨rfl, rfl⟩
      have u4 : ((g.ph : Int) == 2) = true := beq_iff_eq.2 (by omega)
      by_cases t5 : g.tx = v.c.tx
      rotate_left
      · have u5 : ((g.tx : Int) == (v.c.tx : Int)) = false := beq_eq_false_iff_ne.2 (by omega)
        obtain rfl := hno (fun q => t5 q.2.2.2.2.1)
        clear t1 t2 t3 t4 t5
        clear hno hcm
        go_wp2
        go_meet
        case rel => exact ⟨rfl, rfl⟩
      have u5 : ((g.tx : Int) == (v.c.tx : Int)) = true := beq_iff_eq.2 (by omega)
      by_cases t6 : g.l.o = v.c.ow
      rotate_left
      · have u6 : ((g.l.o : Int) == (v.c.ow : Int)) = false := beq_eq_false_iff_ne.2 (by omega)
        obtain rfl := hno (fun q => t6 q.2.2.2.2.2)
        clear t1 t2 t3 t4 t5 t6
        clear hno hcm
        go_wp2
        go_meet
        case rel => exact ⟨rfl, rfl⟩
      have u6 : ((g.l.o : Int) == (v.c.ow : Int)) = true := beq_iff_eq.2 (by omega)
      obtain rfl : cm = true := hcm.2 ⟨t1, t2, by rw [HX.out]; exact t3, t4, t5, t6⟩
      clear t1 t2 t3 t4 t5 t6
      clear hno hcm
      go_wp2
      go_meet
      case rel => exact ⟨rfl, rfl⟩
    case rest =>
    obtain ⟨rfl, rfl⟩ := hcut
    have kw := Lib.hid (fun W (hW : Below w9.heap.size w9 W) (Bq : Option Addr) (lq : List Nat) (cq : Nat) (hS : Sq u16w W W.heap.size Bq lq) (hE : XX.1.bank = lq) => lowWords_any A6 Bq XX.1.bank lq c6 cq XX.1.bank.length lq.length true W rfl rfl (IN.out.to hW).sq hS (by have := IN.out.small; omega) (by simp [hE]))
    cases cm
    · have hkp := does_keeps HR.out (fun q => by have := hcm.2 q; cases this)
      rw [HX.out] at hkp
      have u1 : ((XX.1.la : Int) != (g.la : Int)) = false := by rw [hkp.2]; simp
      have kw1 := Lib.hid (kw.out w9 (Below.refl _ _) _ _ ck IA.out.sq hkp.1)
      clear hkp hcm kw HX
      go_wp2_with fail
      with_reducible refine (kw1.out).mono ?_
      rintro e10 w10 ⟨rfl, hb10⟩
      replace RA := Lib.hid (RA.out.to hb10)
      replace IN := Lib.hid (IN.out.to hb10)
      replace RN := Lib.hid (RN.out.to hb10)
      replace BK := Lib.hid (BK.out.trans (hb10.mono BK.out.size))
      clear hb10 kw1 a0 a1 a2 a3 a4 a5 az0 az1 az2 az3 az4 az5 o0 o1 o2 o3 oz0 oz1 oz2 oz3 n0 n1 n2 n3 n4 n5 nz0 nz1 nz2 nz3 nz4 nz5 alt alu olt olu nlt nlu
      have n5 : w10.cell? ⟨gN, 5, none⟩ = some (.int .u32 (XX.1.la : Int)) := RN.out.cells 5
      have a5 : w10.cell? ⟨gA, 5, none⟩ = some (.int .u32 (g.la : Int)) := RA.out.cells 5
      go_upto_region 17 with fail
      clear n5 a5 u1
      have HCO := HCA
      go_upto_region 22 with (first | (refine wpList_load_var rfl 35 (.tmp 11) rfl (gN) rfl _ _ 32 RN.out Try.underlying35 rfl size_32 HCN.out ?_) | (refine wpList_store_var rfl 35 (.tmp 7) (.tmp 109) rfl (gA) _ (agC A6 c6 s6 XX.1) 32 rfl rfl RA.out size_32 (by first | rfl | exact HCO.out) HCN.out (agC_one _) ?_; intro w_8 r_8 k_8; have R_8 := Lib.hid r_8; have K_8 := Lib.hid k_8; clear r_8 k_8))
      go_wp2
      go_roundw
      case rel => exact ⟨k + 1, XX.1, A6, c6, s6, by omega, by go_num, HRN, R_8, Lib.hid (IN.out.onlyO K_8.out OFN.out), OFN, Lib.hid (K_8.out.to BK.out hwA)⟩
      case measure => simp [intOf]; omega
    · have hcm' := hcm.1 rfl
      have hdc := does_commits HR.out hcm'
      rw [HX.out] at hdc
      have u1 : ((XX.1.la : Int) != (g.tx : Int)) = false := by rw [hdc.1]; simp
      have u2 : decide (XX.1.la ≤ g.la) = false := decide_eq_false (by rw [hdc.1]; show ¬ g.tx ≤ g.la; omega)
      have u3 : ((XX.1.ph : Int) != 0) = false := by rw [hdc.1]; rfl
      have kb := Lib.hid (fun W (hW : Below w9.heap.size w9 W) => blocks_S W (IA.out.st.to hW))
      have kv := Lib.hid (fun W (hW : Below w9.heap.size w9 W) (A1 : Option Addr) (c1 : Nat) (bl : List Blk) (hp : prs bl = ssThere g.S) (hB : Blks W W.heap.size A1 bl) (hl : bl.length ≤ c1) (hc : c1 ≤ 9223372036854775807) => over_any Ak g.bank ck g.bank.length A1 bl c1 bl.length W (IA.out.to hW).sq rfl IA.out.nl rfl hB (by omega))
      have H64 := Lib.hid HR.out.1
      have HFT := Lib.hid HR.out.2.2.2.1
      have HXB := Lib.hid (show XX.1.bank = Bk.over g.bank (ssThere g.S) by rw [hdc.1])
      have H25 := IA.out.C25
      have HZ : Hid ((Try.prog.info? 33).map (·.size) = some sk.C.length) := Lib.hid (by rw [H25]; exact size_25)
      clear hdc hcm' hcm HX o0 o1 o2 o3 oz0 oz1 oz2 oz3 n0 n1 n2 n3 n4 n5 nz0 nz1 nz2 nz3 nz4 nz5 a1 a2 a3 a4 a5 az0 az1 az2 az3 az4 az5 olt olu nlt nlu
      go_upto_region 18 with fail
      refine wp_region_held_drew (S := (fun w' => RowAt w' gA 35 (agC Ak ck sk g) ∧ w'.cell? ⟨gA, 0, none⟩ = some (.slice Ak g.bank.length ck))) (by kernel_rfl) ?_ (fun hHeld => ?_)
      · exact ⟨RA.out, a0⟩
      refine takeD (i := 0) (oi := _) (v := ?vv1) (d := some 111) rfl (by kernel_rfl) (by kernel_rfl) (by kernel_rfl) (by kernel_rfl) (fun _ _ _ h => h) (Or.inl ⟨by kernel_rfl, ?_⟩) (by assumption) ?_
      rotate_left 1
      · intro W_ hSw; (try dsimp only at hSw); go_simp; (first | done | with_reducible rfl)
      try simp only [Act.put, List.setIfInBounds_toArray, List.set_cons_zero, List.set_cons_succ]
      refine takeD (i := 1) (oi := _) (v := ?vv2) (d := some 112) rfl (by kernel_rfl) (by kernel_rfl) (by kernel_rfl) (by kernel_rfl) (fun _ _ _ h => h) (Or.inl ⟨by kernel_rfl, ?_⟩) (by assumption) ?_
      rotate_left 1
      · intro W_ hSw; (try dsimp only at hSw); go_simp; (first | done | with_reducible rfl)
      try simp only [Act.put, List.setIfInBounds_toArray, List.set_cons_zero, List.set_cons_succ]
      refine takeD (i := 2) (oi := _) (v := ?vv3) (d := some 113) rfl (by kernel_rfl) (by kernel_rfl) (by kernel_rfl) (by kernel_rfl) (fun _ _ _ h => h) (Or.inl ⟨by kernel_rfl, ?_⟩) (by assumption) ?_
      rotate_left 1
      · intro W_ hSw; (try dsimp only at hSw); go_simp; (first | done | with_reducible rfl)
      try simp only [Act.put, List.setIfInBounds_toArray, List.set_cons_zero, List.set_cons_succ]
      refine takeD (i := 3) (oi := _) (v := _) (d := some 114) rfl (by kernel_rfl) (by kernel_rfl) (by kernel_rfl) (by kernel_rfl) (fun _ _ _ h => h) (yieldsIf_load_mid (by kernel_rfl) 33 (.tmp 113) (by kernel_rfl) gA 6 (by kernel_rfl) sk.C _ (fun W h => h.1.stage H25) Try.underlying33 rfl HZ.out) (by assumption) ?_
      try simp only [Act.put, List.setIfInBounds_toArray, List.set_cons_zero, List.set_cons_succ]
      refine wpAnyH_ready (rs := [4]) (by kernel_rfl) (by simp) ?_
      refine AllReadyH.cons (o := _) rfl (fun K hK => ?_) AllReadyH.nil
      go_simp
      (go_at_call 17; (with_reducible refine (kb.out _ (Below.refl _ _).drew).mono ?_); rintro e10 w10 ⟨Ab_, cb_, bl, rfl, hp, hB, hl, hc, hn, hb10⟩; have hb10a : Below w9.heap.size w9 w10 := (Below.refl _ _).drew.trans (hb10.mono (Nat.le_refl _)))
      go_wp2_with fail
      refine hK.out _ _ ?_ (fun hHeld => ?_)
      · exact ⟨RA.out.to hb10a, (RA.out.to hb10a).cells 0⟩
      clear hK K
      try simp only [Act.put, List.setIfInBounds_toArray, List.set_cons_zero, List.set_cons_succ]
      refine wpAnyH_ready (rs := [5]) (by kernel_rfl) (by simp) ?_
      refine AllReadyH.cons (o := _) rfl (fun K hK => ?_) AllReadyH.nil
      go_simp
      (go_at_call 16; (with_reducible refine (kv.out _ hb10a _ _ _ hp hB hl hc).mono ?_); rintro e11 w11 ⟨hb11, hov⟩; rw [if_pos H64.out, hp, if_pos HFT.out] at hov; obtain ⟨A5, c5, rfl, o5⟩ := hov; have hb11a : Below w9.heap.size w9 w11 := hb10a.trans (hb11.mono hb10a.size))
      go_wp2_with fail
      refine hK.out _ _ ?_ (fun hHeld => ?_)
      · exact ⟨RA.out.to hb11a, (RA.out.to hb11a).cells 0⟩
      clear hK K
      try simp only [Act.put, List.setIfInBounds_toArray, List.set_cons_zero, List.set_cons_succ]
      refine takeD (i := 6) (oi := _) (v := ?vv4) (d := some 110) rfl (by kernel_rfl) (by kernel_rfl) (by kernel_rfl) (by kernel_rfl) (fun _ _ _ h => h) (Or.inl ⟨by kernel_rfl, ?_⟩) (by assumption) ?_
      rotate_left 1
      · intro W_ hSw; (try dsimp only at hSw); go_simp; (first | done | with_reducible rfl)
      try simp only [Act.put, List.setIfInBounds_toArray, List.set_cons_zero, List.set_cons_succ]
      refine takeD (i := 7) (oi := _) (v := ?vv5) (d := some 117) rfl (by kernel_rfl) (by kernel_rfl) (by kernel_rfl) (by kernel_rfl) (fun _ _ _ h => h) (Or.inl ⟨by kernel_rfl, ?_⟩) (by assumption) ?_
      rotate_left 1
      · intro W_ hSw; (try dsimp only at hSw); go_simp; (first | done | with_reducible rfl)
      try simp only [Act.put, List.setIfInBounds_toArray, List.set_cons_zero, List.set_cons_succ]
      refine takeD (i := 8) (oi := _) (v := ?vv6) (d := some 118) rfl (by kernel_rfl) (by kernel_rfl) (by kernel_rfl) (by kernel_rfl) (fun _ _ _ h => h) (Or.inl ⟨by kernel_rfl, ?_⟩) (by assumption) ?_
      rotate_left 1
      · intro W_ hSw; (try dsimp only at hSw); go_simp; (first | done | with_reducible rfl)
      try simp only [Act.put, List.setIfInBounds_toArray, List.set_cons_zero, List.set_cons_succ]
      refine takeD (i := 9) (oi := _) (v := ?vv7) (d := some 14) rfl (by kernel_rfl) (by kernel_rfl) (by kernel_rfl) (by kernel_rfl) (fun _ _ _ h => h) (Or.inl ⟨by kernel_rfl, ?_⟩) (by assumption) ?_
      rotate_left 1
      · intro W_ hSw; (try dsimp only at hSw); go_simp; (first | done | with_reducible rfl)
      try simp only [Act.put, List.setIfInBounds_toArray, List.set_cons_zero, List.set_cons_succ]
      refine takeD (i := 10) (oi := _) (v := ?vv8) (d := some 15) rfl (by kernel_rfl) (by kernel_rfl) (by kernel_rfl) (by kernel_rfl) (fun _ _ _ h => h) (Or.inl ⟨by kernel_rfl, ?_⟩) (by assumption) ?_
      rotate_left 1
      · intro W_ hSw; (try dsimp only at hSw); go_simp; (first | done | with_reducible rfl)
      try simp only [Act.put, List.setIfInBounds_toArray, List.set_cons_zero, List.set_cons_succ]
      refine wpAnyH_done (by kernel_rfl) ?_ _
      have HS5 := Lib.hid (Sq.of_own o5)
      have HOL := Lib.hid (show (Bk.over g.bank (ssThere g.S)).length = 64 from (Bk.over_length _ _).trans H64.out)
      have HB11 := Lib.hid hb11a
      clear hb10 hb10a hb11 hb11a o5 hp hB hl hc hn a0 kb kv
      have HS6 : Hid (Sq u16w w11 w11.heap.size A5 (Bk.over g.bank (ssThere g.S))) := HS5
      have kw1 := Lib.hid (kw.out w11 HB11.out A5 (Bk.over g.bank (ssThere g.S)) c5 HS6.out HXB.out)
      rw [HOL.out] at kw1
      replace RA := Lib.hid (RA.out.to HB11.out)
      replace IN := Lib.hid (IN.out.to HB11.out)
      replace RN := Lib.hid (RN.out.to HB11.out)
      replace BK := Lib.hid (BK.out.trans (HB11.out.mono BK.out.size))
      clear HS5 HS6 kw HB11
      have n0 : w11.cell? ⟨gN, 0, none⟩ = some (.slice A6 XX.1.bank.length c6) := RN.out.cells 0
      go_wp2_with fail
      with_reducible refine (kw1.out).mono ?_
      rintro e12 w12 ⟨rfl, hb12⟩
      replace RA := Lib.hid (RA.out.to hb12)
      replace IN := Lib.hid (IN.out.to hb12)
      replace RN := Lib.hid (RN.out.to hb12)
      replace BK := Lib.hid (BK.out.trans (hb12.mono BK.out.size))
      clear hb12 kw1 n0
      have n5 : w12.cell? ⟨gN, 5, none⟩ = some (.int .u32 (XX.1.la : Int)) := RN.out.cells 5
      have n3 : w12.cell? ⟨gN, 3, none⟩ = some (.int .u8 (XX.1.ph : Int)) := RN.out.cells 3
      have a5 : w12.cell? ⟨gA, 5, none⟩ = some (.int .u32 (g.la : Int)) := RA.out.cells 5
      have a4 : w12.cell? ⟨gA, 4, none⟩ = some (.int .u32 (g.tx : Int)) := RA.out.cells 4
      go_upto_region 21 with fail
      clear n5 n3 a5 a4 u1 u2 u3
      have HCO := HCA
      go_upto_region 22 with (first | (refine wpList_load_var rfl 35 (.tmp 11) rfl (gN) rfl _ _ 32 RN.out Try.underlying35 rfl size_32 HCN.out ?_) | (refine wpList_store_var rfl 35 (.tmp 7) (.tmp 147) rfl (gA) _ (agC A6 c6 s6 XX.1) 32 rfl rfl RA.out size_32 (by first | rfl | exact HCO.out) HCN.out (agC_one _) ?_; intro w_8 r_8 k_8; have R_8 := Lib.hid r_8; have K_8 := Lib.hid k_8; clear r_8 k_8))
      go_wp2
      go_roundw
      case rel => exact ⟨k + 1, XX.1, A6, c6, s6, by omega, by go_num, HRN, R_8, Lib.hid (IN.out.onlyO K_8.out OFN.out), OFN, Lib.hid (K_8.out.to BK.out hwA)⟩
      case measure => simp [intOf]; omega
end Go.Proofs.Ytajbghjjpebndaa
