/- The walk of saucierlaw20.AgentLease. -/
import Derived.Test.YtajbghjjpebndaaQ29
import Derived.Test.YtajbghjjpebndaaQ30
import Derived.Test.YtajbghjjpebndaaKAgLsLaw
namespace Go.Proofs.Ytajbghjjpebndaa
set_option maxRecDepth 100000
open Go.RowKit
set_option linter.unusedVariables false
set_option linter.unusedSimpArgs false
attribute [local go_sem] Later.cell Later.frozen setCell_twice
attribute [local go_sem high] sliced_zero
theorem row_range {w : World} {b : Nat} {T : TypeId} {C : List Value} (h : RowAt w b T C) : w.rangeAt b 0 C := fun j v hv => by
  rw [Nat.zero_add]
  exact h.cell hv
theorem fits_u16 {fl : List Blk} {ps : List Bk.Pr} {w : World} {B : Nat} {A : Option Addr} (hp : prs fl = ps) (h : Blks w B A fl) : ∀ p ∈ ps, ∀ x ∈ p.2, x < 65536 := by
  rw [← hp]
  exact prs_u16 h.ok
theorem ag_fld2 (A : Option Addr) (c : Nat) (s : Stv) (g : Ag) (w : World) : (Instr.field 35 (.agg (agC A c s g).toArray) 2).run Try.prog w = .ok (.int .u8 (g.ph : Int)) w := by kernel_rfl
set_option maxHeartbeats 4000000 in
theorem lease_walk (bs : List Nat) (Ab : Option Addr) (cb t ow tx : Nat) (l : List Blk) (Al : Option Addr) (cl : Nat) (bt : List Nat) (At : Option Addr) (ct mo : Nat) (w : World) (sb : Sq u16w w w.heap.size Ab bs) (hub : ∀ x ∈ bs, x < 65536) (ht : t < 256) (how : ow < 65536) (htx : tx < 4294967296) (hl : Blks w w.heap.size Al l) (hcl : l.length ≤ cl) (hcl2 : cl ≤ 9223372036854775807) (sbt : Sq (fun x : Nat => .int .u8 (x : Int)) w w.heap.size At bt) (hubt : ∀ x ∈ bt, x < 256) (hmo : mo < 256) :
    Calls Try.prog 6 #[.slice Ab bs.length cb, .int .u8 (t : Int), .int .u16 (ow : Int), .int .u32 (tx : Int), .slice Al l.length cl, .slice At bt.length ct, .int .u8 (mo : Int)] w fun e w' => e = .returned (.bool true) ∧ Below w.heap.size w w' := by
  obtain ⟨bank, hbank⟩ : ∃ q, bank64 bs = q := ⟨_, rfl⟩
  obtain ⟨tk, htk⟩ : ∃ q : Int, 1 + (t % 20 : Nat) = q := ⟨_, rfl⟩
  have hbeg : begG bs t = Ag.new bank tk := by unfold begG; rw [hbank, htk]
  have htk1 : 1 ≤ tk ∧ tk ≤ 20 := by omega
  have hb64 : bank.length = 64 := by rw [← hbank]; exact bank64_length bs
  have kbeg := Lib.hid (fun W (hW : Below w.heap.size w W) => begun_any Ab bs bs.length cb t W rfl ((sb.below hW).more hW.size) hub ht)
  have HR0 := Lib.hid (begG_right bs t)
  rw [hbeg] at kbeg HR0
  obtain ⟨ps, hps⟩ : ∃ q, (prs (l.take 8)).map Bk.fitP = q := ⟨_, rfl⟩
  obtain ⟨nl, hnl⟩ : ∃ n, l.length = n := ⟨_, rfl⟩
  have kfit : Hid (∀ W, Below w.heap.size w W → Calls Try.prog 36 #[.slice Al nl cl, .int .i64 8] W (BlocksQ W ps)) := Lib.hid (fun W hW => by have := fit_new Al l cl 8 W (hl.to hW) hcl hcl2 (by decide); rw [hps, hnl] at this; exact this)
  have HPS : Hid (∀ p ∈ ps, Bk.fits p.1 p.2.length = true) := Lib.hid (by rw [← hps]; exact fitP_fits_all _)
  have hps8 : ps.length ≤ 8 := by rw [← hps, List.length_map]; simp only [prs, List.length_map, List.length_take]; omega
  obtain ⟨nt, hnt⟩ : ∃ n, bt.length = n := ⟨_, rfl⟩
  have SBT := Lib.hid sbt
  have HUT := Lib.hid hubt
  have HNT := Lib.hid hnt
  have H64 := Lib.hid hb64
  rw [hnl, hnt]
  rw [hnl] at hcl
  clear sb hub ht hl sbt hubt hbank htk hbeg hb64 hps hnl hnt
  go_enter Try.func6, Try.ntmps6
  go_wp2_with fail
  with_reducible refine (kbeg.out _ (Below.refl _ _)).mono ?_
  rintro e1 w1 ⟨A1, c1, s1, rfl, i1, hb1⟩
  have HC1 := Lib.hid i1.C32
  have I1 := Lib.hid (i1.more (base' := 0) (Nat.zero_le _))
  have BZ := Lib.hid hb1
  have OF1 := Lib.hid (i1.off (.inr (Nat.le_refl _)))
  have hzw := hb1.size
  clear i1 hb1 kbeg
  go_upto_region 2 with (refine wpList_store_var rfl 35 (.tmp 15) (.tmp 36) rfl w1.heap.size (agC none 0 Stv.zero Ag0) (agC A1 c1 s1 (Ag.new bank tk)) 32 rfl rfl (new_agent w1) size_32 rfl HC1.out (agC_one _) ?_; intro w_3 r_3 k_3; have R_3 := Lib.hid r_3; have HB_3 : Hid (Below w1.heap.size w1 w_3) := Lib.hid (k_3.to (bel_alloc (Below.refl _ _) (.cells z32 35)) (Nat.le_refl _)); clear r_3 k_3)
  replace I1 := Lib.hid (I1.out.to HB_3.out)
  replace BZ := Lib.hid (BZ.out.trans (HB_3.out.mono BZ.out.size))
  obtain ⟨gA, hgA⟩ : ∃ gA, w1.heap.size = gA := ⟨_, rfl⟩
  have hwA : w.heap.size ≤ gA := by rw [← hgA]; omega
  have RA := R_3
  rw [hgA] at RA OF1 ⊢
  clear HB_3 R_3 hgA hzw
  try simp only [Act.put]
  by_cases ho : ow = 0
  · have u1 : ((ow : Int) == 0) = true := by simp [ho]
    clear ho
    go_wp2_with fail
    with_reducible refine (awake20_any _).mono ?_
    rintro e3 w3 ⟨rfl, hq3⟩
    have BZ3 := Lib.hid (BZ.out.trans (hq3.mono BZ.out.size))
    clear hq3
    go_wp2
    go_ret
    exact ⟨rfl, BZ3.out⟩
  have u1 : ((ow : Int) == 0) = false := beq_eq_false_iff_ne.2 (by omega)
  by_cases hx : tx = 0
  · have u2 : ((tx : Int) == 0) = true := by simp [hx]
    clear ho hx
    go_wp2_with fail
    with_reducible refine (awake20_any _).mono ?_
    rintro e3 w3 ⟨rfl, hq3⟩
    have BZ3 := Lib.hid (BZ.out.trans (hq3.mono BZ.out.size))
    clear hq3
    go_wp2
    go_ret
    exact ⟨rfl, BZ3.out⟩
  have u2 : ((tx : Int) == 0) = false := beq_eq_false_iff_ne.2 (by omega)
  go_upto_region 4 with fail
  clear u1 u2
  have HO := Lib.hid ho
  have HX := Lib.hid hx
  clear ho hx
  have kd : Hid (Calls Try.prog 35 #[.agg (agC A1 c1 s1 (Ag.new bank tk)).toArray, .agg #[.int .u16 (ow : Int), .int .u8 1, .int .u32 (tx : Int), .int .u16 0, .int .u32 0]] w_3 (AgOk w_3 (clm bank tk ow tx ss0 tk))) := Lib.hid ((agdo_any w_3 I1.out HR0.out ⟨ow, 1, tx, 0, 0⟩ ⟨how, (by show 1 < 256; decide), htx, (by show 0 < 65536; decide), (by show 0 < 4294967296; decide)⟩).mono fun _ _ h => h.ok (new_claim HO.out HX.out))
  have hgA3 := RA.out.lt
  go_wp2_with (refine wpList_load_var rfl 35 (.tmp 15) rfl (gA) rfl _ _ 32 RA.out Try.underlying35 rfl size_32 HC1.out ?_)
  with_reducible refine (kd.out).mono ?_
  rintro e4 w4 ⟨A4, c4, s4, rfl, i4, hb4⟩
  have I4 := Lib.hid i4
  have HC4 := Lib.hid i4.C32
  replace RA := Lib.hid (RA.out.to hb4)
  replace BZ := Lib.hid (BZ.out.trans (hb4.mono BZ.out.size))
  have HCO := HC1
  clear i4 hb4 kd I1 OF1 HR0
  go_upto_region 5 with (refine wpList_store_var rfl 35 (.tmp 15) (.tmp 58) rfl (gA) _ (agC A4 c4 s4 (clm bank tk ow tx ss0 tk)) 32 rfl rfl RA.out size_32 (by first | rfl | exact HCO.out) HC4.out (agC_one _) ?_; intro w_5 r_5 k_5; have R_5 := Lib.hid r_5; have K_5 := Lib.hid k_5; clear r_5 k_5)
  have I5 : Hid (AgIs A4 c4 s4 (clm bank tk ow tx ss0 tk) w_5 (gA + 1)) := Lib.hid ((I4.out.only K_5.out hgA3).more hgA3)
  have BZ5 := Lib.hid (K_5.out.to BZ.out hwA)
  clear I4 K_5 BZ RA HCO HC1
  go_wp2_with fail
  with_reducible refine (kfit.out _ BZ5.out).mono ?_
  rintro e6 w6 hfq
  obtain ⟨Af, cf, fl, rfl, hp, hfb, hfl, hfc, hb6⟩ := FB.of (B := gA + 1) (by exact R_5.out.lt) hfq
  clear hfq
  have FL := Lib.hid hfb
  have HP := Lib.hid hp
  obtain ⟨n, hn⟩ : ∃ n, fl.length = n := ⟨_, rfl⟩
  have hpl : ps.length = n := by rw [← hp, ← hn]; simp
  have HPL := Lib.hid hpl
  have HNF := Lib.hid hn
  rw [hn] at hfl ⊢
  have hn8 : n ≤ 8 := by omega
  have RA := Lib.hid (R_5.out.to hb6)
  have IA := Lib.hid (I5.out.to hb6)
  have BZ := Lib.hid (BZ5.out.trans (hb6.mono BZ5.out.size))
  have HRC := Lib.hid (fun (k : Nat) (hk : k ≤ n) (lf : Int) (h : 1 ≤ lf) => clm_right (ow := ow) (tx := tx) H64.out htk1.1 HO.out HX.out h (first_fit HPS.out (by rw [HPL.out]; exact hk)))
  clear hfb hp hn hpl hb6 R_5 I5 BZ5 kfit hps8
  go_upto_region 7 with fail
  go_loopw [64] (fun i wr => ∃ k : Nat, ∃ (Ak : Option Addr) (ck : Nat) (sk : Stv), k ≤ n ∧ i = .int .i64 (k : Int) ∧ Hid (RowAt wr gA 35 (agC Ak ck sk (clm bank tk ow tx (firstN ps k) tk))) ∧ Hid (AgIs Ak ck sk (clm bank tk ow tx (firstN ps k) tk) wr (gA + 1)) ∧ Hid (FB (gA + 1) Af fl wr) ∧ Hid (Below w.heap.size w wr)) (fun i _ => n - (intOf i).toNat)
  case atStart => exact ⟨0, A4, c4, s4, by omega, rfl, RA, IA, FL, BZ⟩
  case round =>
    rename World => wr
    clear RA IA FL BZ
    obtain ⟨k, Ak, ck, sk, hk, rfl, RA, IA, FL, BK⟩ := hrel
    by_cases hlt : k < n
    · have hltI : (k : Int) < (n : Int) := by omega
      have h0I : (0 : Int) ≤ (k : Int) := by omega
      have HCA := Lib.hid IA.out.C32
      have hlA := RA.out.lt
      obtain ⟨go, oo, x, rfl, hgo, hx, hxo, hc0, hc1⟩ := FL.out.bl.at_ (k := k) (by rw [HNF.out]; exact hlt)
      have HXG := Lib.hid hx
      have HXO := Lib.hid hxo
      clear hx hxo
      go_upto_region 9 with fail
      obtain ⟨wB, hwB⟩ : ∃ w_q_, w_q_ = wr.alloc (.cells #[.int .i64 x.a, .slice x.A x.ws.length x.c] 30) := ⟨_, rfl⟩
      rw [← hwB]
      have hbB : Below wr.heap.size wr wB := by rw [hwB]; exact bel_alloc (Below.refl _ _) _
      have RB : Hid (RowAt wB wr.heap.size 30 [.int .i64 x.a, .slice x.A x.ws.length x.c]) := Lib.hid (by rw [hwB]; exact RowAt.new wr _ _)
      replace RA := Lib.hid (RA.out.to hbB)
      replace IA := Lib.hid (IA.out.to hbB)
      replace FL := Lib.hid (FL.out.to hbB)
      replace BK := Lib.hid (BK.out.trans (hbB.mono BK.out.size))
      obtain ⟨gB, hgB⟩ : ∃ gB, wr.heap.size = gB := ⟨_, rfl⟩
      have hAB : gA < gB := by omega
      rw [hgB] at RB ⊢
      clear hbB hwB hgB HXO hc0 hc1 hgo
      go_upto_if 72 with fail
      go_cut [] (fun wx => ∃ (Ak : Option Addr) (ck : Nat) (sk : Stv) (lf : Int), (1 ≤ lf ∧ lf ≤ tk) ∧ Hid (RowAt wx gA 35 (agC Ak ck sk (clm bank tk ow tx (firstN ps k) lf))) ∧ Hid (AgIs Ak ck sk (clm bank tk ow tx (firstN ps k) lf) wx (gA + 1)) ∧ Hid (FB (gA + 1) (some ⟨go, oo, none⟩) fl wx) ∧ Hid (Below w.heap.size w wx) ∧ Hid (RowAt wx gB 30 [.int .i64 x.a, .slice x.A x.ws.length x.c]))
      case first =>
        by_cases hi : k < nt
        rotate_left
        · have hd : decide (k < nt) = false := decide_eq_false hi
          have hdI : decide ((k : Int) < (nt : Int)) = false := decide_eq_false (by omega)
          clear hi
          rw [hd]
          go_wp2
          go_meet
          case rel => exact ⟨Ak, ck, sk, tk, ⟨htk1.1, by omega⟩, RA, IA, FL, BK, RB⟩
        have hd : decide (k < nt) = true := decide_eq_true hi
        have hdI : decide ((k : Int) < (nt : Int)) = true := decide_eq_true (by omega)
        obtain ⟨gb, ob, y, rfl, hgb, hy, hcy⟩ := (SBT.out.below BK.out).at_ (j := k) (by rw [HNT.out]; exact hi)
        have hy256 : y < 256 := HUT.out y (List.mem_of_getElem? hy)
        have a31 : wB.cell? ⟨gA, 31, none⟩ = some (.int .i64 tk) := RA.out.cell (agL_tk IA.out.C25)
        have htk0 : (tk == 0) = false := beq_eq_false_iff_ne.2 (by omega)
        have hiI : (k : Int) < (nt : Int) := by omega
        have hlA := RA.out.lt
        have HY := Lib.hid hy
        clear hy hi
        rw [hd]
        go_upto_region 10 with fail
        go_quiet (fail)
        obtain ⟨wy, hwy⟩ : ∃ q, wB.drewN nq = q := ⟨_, rfl⟩
        rw [hwy]
        have HBY : Hid (Below wB.heap.size wB wy) := Lib.hid (by rw [← hwy]; exact bel_drewN (Below.refl _ _) nq)
        clear hwy
        replace RA := Lib.hid (RA.out.to HBY.out)
        replace IA := Lib.hid (IA.out.to HBY.out)
        replace FL := Lib.hid (FL.out.to HBY.out)
        replace RB := Lib.hid (RB.out.to HBY.out)
        replace BK := Lib.hid (BK.out.trans (HBY.out.mono BK.out.size))
        clear HBY hd hdI hcy hgb a31 htk0
        obtain ⟨m, hm⟩ : ∃ m : Nat, (m : Int) = (y : Int).tmod tk := ⟨((y : Int).tmod tk).toNat, by rw [Int.toNat_of_nonneg]; exact Int.tmod_nonneg _ (by omega)⟩
        have hmt : (m : Int) < tk := by rw [hm]; exact Int.tmod_lt_of_pos _ (by omega)
        have hm1 : IntKind.i64.wrap (m : Int) = (m : Int) := IntWalk.i64_in _ (by omega)
        have hm2 : (y : Int) % tk = (m : Int) := by rw [hm, Int.tmod_eq_emod_of_nonneg (by omega)]
        try rw [← hm]
        try rw [hm2]
        try rw [hm1]
        clear hm hm1 hm2
        go_upto_region 11 with fail
        go_loopw [81] (fun i ws => ∃ j : Nat, ∃ (Aj : Option Addr) (cj : Nat) (sj : Stv), j ≤ m ∧ i = .int .i64 (j : Int) ∧ Hid (RowAt ws gA 35 (agC Aj cj sj (clm bank tk ow tx (firstN ps k) (tk - (j : Int))))) ∧ Hid (AgIs Aj cj sj (clm bank tk ow tx (firstN ps k) (tk - (j : Int))) ws (gA + 1)) ∧ Hid (FB (gA + 1) (some ⟨go, oo, none⟩) fl ws) ∧ Hid (Below w.heap.size w ws) ∧ Hid (RowAt ws gB 30 [.int .i64 x.a, .slice x.A x.ws.length x.c])) (fun i _ => m - (intOf i).toNat)
        case atStart =>
          have e0 : tk - ((0 : Nat) : Int) = tk := by omega
          exact ⟨0, Ak, ck, sk, by omega, rfl, by rw [e0]; exact RA, by rw [e0]; exact IA, FL, BK, RB⟩
        case round =>
          rename World => ws
          clear RA IA FL BK RB HCA
          obtain ⟨j, Aj, cj, sj, hj, rfl, RA, IA, FL, BK, RB⟩ := hrel
          by_cases hlj : j < m
          rotate_left
          · obtain rfl : j = m := by omega
            go_wp2
            go_meet
            case rel => exact ⟨Aj, cj, sj, tk - (j : Int), ⟨by omega, by omega⟩, RA, IA, FL, BK, RB⟩
          have hljI : (j : Int) < (m : Int) := by omega
          have h0jI : (0 : Int) ≤ (j : Int) := by omega
          have HCA := Lib.hid IA.out.C32
          have hlA := RA.out.lt
          have ktk : Hid (Calls Try.prog 37 #[.agg (agC Aj cj sj (clm bank tk ow tx (firstN ps k) (tk - (j : Int)))).toArray] ws (AgE ws (clm bank tk ow tx (firstN ps k) (tk - ((j + 1 : Nat) : Int))))) := Lib.hid (by have := agtick_any ws IA.out (HRC.out k (by omega) _ (by omega)); rw [clm_tick (by omega), show tk - (j : Int) - 1 = tk - ((j + 1 : Nat) : Int) by omega] at this; exact this)
          go_wp2_with (refine wpList_load_var rfl 35 (.tmp 15) rfl (gA) rfl _ _ 32 RA.out Try.underlying35 rfl size_32 HCA.out ?_)
          with_reducible refine (ktk.out).mono ?_
          rintro e3 w3 ⟨A3, c3, s3, rfl, i3, hb3⟩
          have I3 := Lib.hid i3
          have HC3 := Lib.hid i3.C32
          replace RA := Lib.hid (RA.out.to hb3)
          replace FL := Lib.hid (FL.out.to hb3)
          replace RB := Lib.hid (RB.out.to hb3)
          replace BK := Lib.hid (BK.out.trans (hb3.mono BK.out.size))
          have HCO := HCA
          clear i3 hb3 ktk IA
          go_upto_region 13 with (refine wpList_store_var rfl 35 (.tmp 15) (.tmp 84) rfl (gA) _ (agC A3 c3 s3 (clm bank tk ow tx (firstN ps k) (tk - ((j + 1 : Nat) : Int)))) 32 rfl rfl RA.out size_32 (by first | rfl | exact HCO.out) HC3.out (agC_one _) ?_; intro w_4 r_4 k_4; have R_4 := Lib.hid r_4; have K_4 := Lib.hid k_4; clear r_4 k_4)
          go_wp2
          go_roundw
          case rel => exact ⟨j + 1, A3, c3, s3, by omega, by go_num, R_4, Lib.hid ((I3.out.only K_4.out (by omega)).more (by omega)), Lib.hid (FL.out.only K_4.out (Nat.lt_succ_self _)), Lib.hid (K_4.out.to BK.out hwA), Lib.hid (RB.out.only K_4.out (by omega))⟩
          case measure => simp [intOf]; omega
      case rest =>
      obtain ⟨Aj, cj, sj, lf, hlf, RA, IA, FL, BK, RB⟩ := hcut
      rename World => wz
      clear HCA
      have HCA := Lib.hid IA.out.C32
      have hlA := RA.out.lt
      have hk8 : k < 8 := by omega
      have hget : ps.getD k (0, []) = x.pr := by rw [← HP.out, List.getD_eq_getElem?_getD, prs_get HXG.out]; rfl
      have hxps : ps[k]? = some x.pr := by rw [← HP.out]; exact prs_get HXG.out
      have kp : Hid (Calls Try.prog 38 #[.agg (agC Aj cj sj (clm bank tk ow tx (firstN ps k) lf)).toArray, .int .u16 (ow : Int), .int .u32 (tx : Int), .int .i64 (k : Int), .agg #[.int .i64 x.a, .slice x.A x.ws.length x.c]] wz (AgOk wz (clm bank tk ow tx (firstN ps (k + 1)) tk))) := Lib.hid ((agput_any wz IA.out (HRC.out k (by omega) _ hlf.1) ow tx k x how htx (FL.out.bl.ok x (List.mem_of_getElem? HXG.out))).mono fun _ _ h => h.ok (by rw [clm_put HO.out HX.out hk8 (HPS.out _ (List.mem_of_getElem? hxps)), ← hget, first_succ ps hk8]))
      have b0 : wz.cell? ⟨gB, 0, none⟩ = some (.int .i64 x.a) := RB.out.cells 0
      have b1 : wz.cell? ⟨gB, 1, none⟩ = some (.slice x.A x.ws.length x.c) := RB.out.cells 1
      have hlB := RB.out.lt
      clear hget hxps HXG
      go_wp2_with (refine wpList_load_var rfl 35 (.tmp 15) rfl (gA) rfl _ _ 32 RA.out Try.underlying35 rfl size_32 HCA.out ?_)
      with_reducible refine (kp.out).mono ?_
      rintro e3 w3 ⟨A3, c3, s3, rfl, i3, hb3⟩
      have I3 := Lib.hid (i3.more (base' := gA + 1) hlA)
      have HC3 := Lib.hid i3.C32
      replace RA := Lib.hid (RA.out.to hb3)
      replace FL := Lib.hid (FL.out.to hb3)
      replace IA := Lib.hid (IA.out.to hb3)
      replace BK := Lib.hid (BK.out.trans (hb3.mono BK.out.size))
      clear i3 hb3 kp b0 b1 hlB RB hlA
      go_upto_region 15 with (refine wpList_store_var rfl 35 (.tmp 20) (.tmp 93) rfl w3.heap.size (agC none 0 Stv.zero Ag0) (agC A3 c3 s3 (clm bank tk ow tx (firstN ps (k + 1)) tk)) 32 rfl rfl (new_agent w3) size_32 rfl HC3.out (agC_one _) ?_; intro w_4 r_4 k_4; have R_4 := Lib.hid r_4; have HB_4 : Hid (Below w3.heap.size w3 w_4) := Lib.hid (k_4.to (bel_alloc (Below.refl _ _) (.cells z32 35)) (Nat.le_refl _)); clear r_4 k_4)
      replace RA := Lib.hid (RA.out.to HB_4.out)
      replace FL := Lib.hid (FL.out.to HB_4.out)
      replace I3 := Lib.hid (I3.out.to HB_4.out)
      replace IA := Lib.hid (IA.out.to HB_4.out)
      replace BK := Lib.hid (BK.out.trans (HB_4.out.mono BK.out.size))
      obtain ⟨gN, hgN⟩ : ∃ gN, w3.heap.size = gN := ⟨_, rfl⟩
      have RN := R_4
      rw [hgN] at RN ⊢
      clear HB_4 R_4 hgN
      try simp only [Act.put]
      have n2 : w_4.cell? ⟨gN, 2, none⟩ = some (.int .i64 tk) := RN.out.cells 2
      have a31 : w_4.cell? ⟨gA, 31, none⟩ = some (.int .i64 tk) := RA.out.cell (agL_tk IA.out.C25)
      have hlA := RA.out.lt
      have hlN := RN.out.lt
      go_upto_region 17 with fail
      clear n2 a31
      have HCO := HCA
      go_upto_region 18 with (first | (refine wpList_load_var rfl 35 (.tmp 20) rfl (gN) rfl _ _ 32 RN.out Try.underlying35 rfl size_32 HC3.out ?_) | (refine wpList_store_var rfl 35 (.tmp 15) (.tmp 105) rfl (gA) _ (agC A3 c3 s3 (clm bank tk ow tx (firstN ps (k + 1)) tk)) 32 rfl rfl RA.out size_32 (by first | rfl | exact HCO.out) HC3.out (agC_one _) ?_; intro w_5 r_5 k_5; have R_5 := Lib.hid r_5; have K_5 := Lib.hid k_5; clear r_5 k_5))
      go_wp2
      go_roundw
      case rel => exact ⟨k + 1, A3, c3, s3, by omega, by go_num, R_5, Lib.hid (I3.out.only K_5.out (Nat.lt_succ_self _)), Lib.hid (FL.out.only K_5.out (Nat.lt_succ_self _)), Lib.hid (K_5.out.to BK.out hwA)⟩
      case measure => simp [intOf]; omega
    obtain rfl : k = n := by omega
    clear hlt
    have HRK := Lib.hid (fun (lf : Int) (h : 1 ≤ lf) => HRC.out k (Nat.le_refl _) lf h)
    obtain ⟨S, hS⟩ : ∃ S, firstN ps k = S := ⟨_, rfl⟩
    rw [hS] at RA IA HRK
    have HS := Lib.hid hS
    clear hS HRC
    have HCA := Lib.hid IA.out.C32
    have hlA := RA.out.lt
    have a3 : wr.cell? ⟨gA, 3, none⟩ = some (.int .u8 1) := RA.out.cells 3
    have kb := Lib.hid (agboot_any wr IA.out)
    go_wp2_with (refine wpList_load_var (by kernel_rfl) 35 (.tmp 15) rfl gA rfl _ _ 32 RA.out Try.underlying35 rfl size_32 HCA.out ?_)
    with_reducible refine (kb.out).mono ?_
    rintro e3 w3 ⟨A3, c3, s3, rfl, i3, hb3⟩
    have kfl : ∀ W, (Instr.field 35 (.agg (agC A3 c3 s3 (clm bank tk ow tx S tk).boot).toArray) 2).run Try.prog W = .ok (.int .u8 0) W := fun W => ag_fld2 A3 c3 s3 (clm bank tk ow tx S tk).boot W
    replace RA := Lib.hid (RA.out.to hb3)
    replace IA := Lib.hid (IA.out.to hb3)
    replace FL := Lib.hid (FL.out.to hb3)
    replace BK := Lib.hid (BK.out.trans (hb3.mono BK.out.size))
    clear kb i3 hb3 a3
    go_upto_region 21 with fail
    clear kfl
    have hlA := RA.out.lt
    go_upto_region 22 with (first | (refine wpList_load_var rfl 35 (.tmp 15) rfl (gA) rfl _ _ 32 RA.out Try.underlying35 rfl size_32 HCA.out ?_) | (refine wpList_store_var rfl 35 (.tmp 22) (.tmp 120) rfl w3.heap.size (agC none 0 Stv.zero Ag0) (agC Ak ck sk (clm bank tk ow tx S tk)) 32 rfl rfl (new_agent w3) size_32 rfl HCA.out (agC_one _) ?_; intro w_4 r_4 k_4; have R_4 := Lib.hid r_4; have HB_4 : Hid (Below w3.heap.size w3 w_4) := Lib.hid (k_4.to (bel_alloc (Below.refl _ _) (.cells z32 35)) (Nat.le_refl _)); clear r_4 k_4))
    have B4 := HB_4
    obtain ⟨gC, hgC⟩ : ∃ gC, w3.heap.size = gC := ⟨_, rfl⟩
    have hAC : gA < gC := by omega
    have RC := R_4
    have HGC := Lib.hid hgC
    have a31 : w_4.cell? ⟨gA, 31, none⟩ = some (.int .i64 tk) := (RA.out.to B4.out).cell (agL_tk IA.out.C25)
    have hlA4 := (RA.out.to B4.out).lt
    rw [hgC] at RC ⊢
    clear HB_4 R_4 hgC
    try simp only [Act.put]
    go_upto_region 23 with fail
    clear a31 hlA4
    have hC0 : cst bank tk ow tx S 0 = clm bank tk ow tx S tk := cst_zero htk1.1
    have IC : Hid (AgIs Ak ck sk (cst bank tk ow tx S 0) w_4 0) := Lib.hid (by rw [hC0]; exact (IA.out.to B4.out).more (Nat.zero_le _))
    replace RC : Hid (RowAt w_4 gC 35 (agC Ak ck sk (cst bank tk ow tx S 0))) := Lib.hid (by rw [hC0]; exact RC.out)
    clear hC0
    go_loopw [123] (fun i ws => ∃ j : Nat, ∃ (Aj : Option Addr) (cj : Nat) (sj : Stv), (j : Int) ≤ tk ∧ i = .int .i64 (j : Int) ∧ Hid (RowAt ws gC 35 (agC Aj cj sj (cst bank tk ow tx S j))) ∧ Hid (AgIs Aj cj sj (cst bank tk ow tx S j) ws 0) ∧ Hid (Below w3.heap.size w3 ws)) (fun i _ => tk.toNat - (intOf i).toNat)
    case atStart => exact ⟨0, Ak, ck, sk, by omega, rfl, RC, IC, B4⟩
    case round =>
      rename World => ws
      clear RC IC B4
      obtain ⟨j, Aj, cj, sj, hj, rfl, RC, IC, BL⟩ := hrel
      by_cases hlj : (j : Int) < tk
      · have h0jI : (0 : Int) ≤ (j : Int) := by omega
        have HCC := Lib.hid IC.out.C32
        have hlC := RC.out.lt
        have ktk : Hid (Calls Try.prog 37 #[.agg (agC Aj cj sj (cst bank tk ow tx S j)).toArray] ws (AgE ws (cst bank tk ow tx S (j + 1)))) := Lib.hid (by have := agtick_any ws IC.out (cst_right HRK.out htk1.1 j); rw [cst_tick hlj] at this; exact this)
        go_wp2_with (refine wpList_load_var rfl 35 (.tmp 22) rfl (gC) rfl _ _ 32 RC.out Try.underlying35 rfl size_32 HCC.out ?_)
        with_reducible refine (ktk.out).mono ?_
        rintro e5 w5 ⟨A5, c5, s5, rfl, i5, hb5⟩
        have I5 := Lib.hid i5
        have HC5 := Lib.hid i5.C32
        replace RC := Lib.hid (RC.out.to hb5)
        replace BL := Lib.hid (BL.out.trans (hb5.mono BL.out.size))
        have HCO := HCC
        clear i5 hb5 ktk IC
        go_upto_region 26 with (refine wpList_store_var rfl 35 (.tmp 22) (.tmp 127) rfl (gC) _ (agC A5 c5 s5 (cst bank tk ow tx S (j + 1))) 32 rfl rfl RC.out size_32 (by first | rfl | exact HCO.out) HC5.out (agC_one _) ?_; intro w_6 r_6 k_6; have R_6 := Lib.hid r_6; have K_6 := Lib.hid k_6; clear r_6 k_6)
        have BL6 := Lib.hid (K_6.out.to BL.out (by rw [HGC.out]; exact Nat.le_refl _))
        have I6 := Lib.hid ((I5.out.only K_6.out hlC).more (Nat.zero_le _))
        have a31 : w_6.cell? ⟨gA, 31, none⟩ = some (.int .i64 tk) := (RA.out.to BL6.out).cell (agL_tk IA.out.C25)
        have hlA6 := (RA.out.to BL6.out).lt
        have hlC6 := R_6.out.lt
        clear I5 K_6 BL RC HCO HCC hlC
        by_cases hl1 : ((j + 1 : Nat) : Int) < tk
        · have c3 : w_6.cell? ⟨gC, 3, none⟩ = some (.int .u8 1) := by rw [R_6.out.cells 3]; show some (Value.int .u8 (((cst bank tk ow tx S (j + 1)).ph : Nat) : Int)) = _; rw [cst_in hl1]; rfl
          have p1 : ((j : Int) == tk - 1) = false := beq_eq_false_iff_ne.2 (by omega)
          have hl1' : (j : Int) + 1 ≤ tk := by omega
          clear hl1
          go_wp2
          go_roundw
          case rel => exact ⟨j + 1, A5, c5, s5, by omega, by go_num, R_6, I6, BL6⟩
          case measure => simp [intOf]; omega
        · have c3 : w_6.cell? ⟨gC, 3, none⟩ = some (.int .u8 0) := by rw [R_6.out.cells 3]; show some (Value.int .u8 (((cst bank tk ow tx S (j + 1)).ph : Nat) : Int)) = _; rw [cst_out hl1]; rfl
          have p1 : ((j : Int) == tk - 1) = true := beq_iff_eq.2 (by omega)
          have hl1' : (j : Int) + 1 ≤ tk := by omega
          clear hl1
          go_wp2
          go_roundw
          case rel => exact ⟨j + 1, A5, c5, s5, by omega, by go_num, R_6, I6, BL6⟩
          case measure => simp [intOf]; omega
      clear RC IC
      clear hj
      go_upto_region 29 with fail
      have RAs := Lib.hid (RA.out.to BL.out)
      have IAs := Lib.hid (IA.out.to BL.out)
      have FLs := Lib.hid (FL.out.to BL.out)
      have hlAs := RAs.out.lt
      obtain ⟨z, hz⟩ : ∃ z, chk ps = z := ⟨_, rfl⟩
      have hzb : z < 4294967296 := by rw [← hz]; exact chk_lt (fits_u16 HP.out FLs.out.bl)
      have ksum : Hid (∀ W, Below ws.heap.size ws W → Calls Try.prog 40 #[.slice Af k cf] W fun e w' => e = .returned (.int .u32 (z : Int)) ∧ Below W.heap.size W w') := Lib.hid (fun W hW => by have := stSum_any Af fl cf k ps W (FLs.out.to hW).bl HNF.out (by omega) hfl hfc HP.out; rw [hz] at this; exact this)
      have kdo : Hid (∀ W, Below ws.heap.size ws W → Calls Try.prog 35 #[.agg (agC Ak ck sk (clm bank tk ow tx S tk)).toArray, .agg #[.int .u16 (ow : Int), .int .u8 2, .int .u32 (tx : Int), .int .u16 (k : Int), .int .u32 (z : Int)]] W (AgOk W (prp bank tk ow tx S))) := Lib.hid (fun W hW => (agdo_any W (IAs.out.to hW) (HRK.out tk htk1.1) ⟨ow, 2, tx, k, z⟩ ⟨how, (by show 2 < 256; decide), htx, (by show k < 65536; omega), hzb⟩).mono fun _ _ h => h.ok (by rw [← hz, ← HS.out]; exact clm_prepare HPL.out hn8 HO.out HX.out))
      have wk : IntKind.u16.wrap (k : Int) = (k : Int) := by simp [IntKind.wrap, IntKind.bits, IntKind.signed]; omega
      have HZA : Hid ((Try.prog.info? 35).map (·.size) = some (agC Ak ck sk (clm bank tk ow tx S tk)).length) := Lib.hid (by rw [HCA.out]; exact size_32)
      clear hz
      go_cut [24, 25] (fun p e wx => e = .int .i64 0 ∧ ∃ (gP : Nat) (A8 : Option Addr) (c8 : Nat) (s8 : Stv), p = .pointer (some ⟨gP, 0, none⟩) ∧ ws.heap.size ≤ gP ∧ Hid (RowAt wx gP 35 (agC A8 c8 s8 (prp bank tk ow tx S))) ∧ Hid (AgIs A8 c8 s8 (prp bank tk ow tx S) wx 0) ∧ Hid (Below ws.heap.size ws wx))
      case first =>
        refine wp_region_held_drew (S := (fun W => RowAt W gA 35 (agC Ak ck sk (clm bank tk ow tx S tk)))) (by kernel_rfl) ?_ (fun hHeld => ?_)
        · exact RAs.out
        refine takeD (i := 0) (oi := _) (v := _) (d := some 139) rfl (by kernel_rfl) (by kernel_rfl) (by kernel_rfl) (by kernel_rfl) (fun _ _ _ h => h) (yieldsIf_load_mid (by kernel_rfl) 35 (.tmp 15) (by kernel_rfl) gA 0 (by kernel_rfl) (agC Ak ck sk (clm bank tk ow tx S tk)) _ (fun W h => row_range h) Try.underlying35 rfl HZA.out) (by assumption) ?_
        try simp only [Act.put, List.setIfInBounds_toArray, List.set_cons_zero, List.set_cons_succ]
        refine takeD (i := 1) (oi := _) (v := ?vv1) (d := some 140) rfl (by kernel_rfl) (by kernel_rfl) (by kernel_rfl) (by kernel_rfl) (fun _ _ _ h => h) (Or.inl ⟨by kernel_rfl, ?_⟩) (by assumption) ?_
        rotate_left 1
        · intro W_ hSw; (try dsimp only at hSw); go_simp; (first | done | with_reducible rfl)
        try simp only [Act.put, List.setIfInBounds_toArray, List.set_cons_zero, List.set_cons_succ]
        refine takeD (i := 2) (oi := _) (v := ?vv2) (d := some 141) rfl (by kernel_rfl) (by kernel_rfl) (by kernel_rfl) (by kernel_rfl) (fun _ _ _ h => h) (Or.inl ⟨by kernel_rfl, ?_⟩) (by assumption) ?_
        rotate_left 1
        · intro W_ hSw; (try dsimp only at hSw); go_simp; (first | done | with_reducible rfl)
        try simp only [Act.put, List.setIfInBounds_toArray, List.set_cons_zero, List.set_cons_succ]
        refine takeD (i := 3) (oi := _) (v := ?vv3) (d := some 142) rfl (by kernel_rfl) (by kernel_rfl) (by kernel_rfl) (by kernel_rfl) (fun _ _ _ h => h) (Or.inl ⟨by kernel_rfl, ?_⟩) (by assumption) ?_
        rotate_left 1
        · intro W_ hSw; (try dsimp only at hSw); go_simp; (first | done | with_reducible rfl)
        try simp only [Act.put, List.setIfInBounds_toArray, List.set_cons_zero, List.set_cons_succ]
        refine takeD (i := 4) (oi := _) (v := ?vv4) (d := some 143) rfl (by kernel_rfl) (by kernel_rfl) (by kernel_rfl) (by kernel_rfl) (fun _ _ _ h => h) (Or.inl ⟨by kernel_rfl, ?_⟩) (by assumption) ?_
        rotate_left 1
        · intro W_ hSw; (try dsimp only at hSw); go_simp; (first | done | with_reducible rfl)
        try simp only [Act.put, List.setIfInBounds_toArray, List.set_cons_zero, List.set_cons_succ]
        refine takeD (i := 5) (oi := _) (v := ?vv5) (d := some 144) rfl (by kernel_rfl) (by kernel_rfl) (by kernel_rfl) (by kernel_rfl) (fun _ _ _ h => h) (Or.inl ⟨by kernel_rfl, ?_⟩) (by assumption) ?_
        rotate_left 1
        · intro W_ hSw; (try dsimp only at hSw); go_simp; (first | done | with_reducible rfl)
        try simp only [Act.put, List.setIfInBounds_toArray, List.set_cons_zero, List.set_cons_succ]
        refine takeD (i := 6) (oi := _) (v := ?vv6) (d := some 145) rfl (by kernel_rfl) (by kernel_rfl) (by kernel_rfl) (by kernel_rfl) (fun _ _ _ h => h) (Or.inl ⟨by kernel_rfl, ?_⟩) (by assumption) ?_
        rotate_left 1
        · intro W_ hSw; (try dsimp only at hSw); go_simp; (first | done | with_reducible rfl)
        try simp only [Act.put, List.setIfInBounds_toArray, List.set_cons_zero, List.set_cons_succ]
        refine wpAnyH_ready (rs := [7, 13]) (by kernel_rfl) (by simp) ?_
        refine AllReadyH.cons (o := _) rfl (fun K hK => ?_) (AllReadyH.cons (o := _) rfl (fun K hK => ?_) AllReadyH.nil)
        · go_simp
          (go_at_call 40; (with_reducible refine (ksum.out _ (Below.refl _ _).drew).mono ?_); rintro e5 w5 ⟨rfl, hb5⟩; have b5 : Below ws.heap.size ws w5 := (Below.refl _ _).drew.trans (hb5.mono (Nat.le_refl _)))
          go_wp2_with fail
          refine hK.out _ _ ?_ (fun hHeld => ?_)
          · exact RAs.out.to b5
          clear hK K
          try simp only [Act.put, List.setIfInBounds_toArray, List.set_cons_zero, List.set_cons_succ]
          refine takeD (i := 8) (oi := _) (v := ?vv7) (d := some 147) rfl (by kernel_rfl) (by kernel_rfl) (by kernel_rfl) (by kernel_rfl) (fun _ _ _ h => h) (Or.inl ⟨by kernel_rfl, ?_⟩) (by assumption) ?_
          rotate_left 1
          · intro W_ hSw; (try dsimp only at hSw); go_simp; (first | done | with_reducible rfl)
          try simp only [Act.put, List.setIfInBounds_toArray, List.set_cons_zero, List.set_cons_succ]
          refine wpAnyH_ready (rs := [9, 13]) (by kernel_rfl) (by simp) ?_
          refine AllReadyH.cons (o := _) rfl (fun K hK => ?_) (AllReadyH.cons (o := _) rfl (fun K hK => ?_) AllReadyH.nil)
          · go_simp
            (go_at_call 35; (with_reducible refine (kdo.out _ b5).mono ?_); rintro e6 w6 ⟨A6, c6, s6, rfl, i6, hb6⟩; have b6 : Below ws.heap.size ws w6 := b5.trans (hb6.mono b5.size))
            go_wp2_with fail
            refine hK.out _ _ ?_ (fun hHeld => ?_)
            · exact RAs.out.to b6
            clear hK K
            try simp only [Act.put, List.setIfInBounds_toArray, List.set_cons_zero, List.set_cons_succ]
            refine takeD (i := 10) (oi := _) (v := ?vv8) (d := some 138) rfl (by kernel_rfl) (by kernel_rfl) (by kernel_rfl) (by kernel_rfl) (fun _ _ _ h => h) (Or.inl ⟨by kernel_rfl, ?_⟩) (by assumption) ?_
            rotate_left 1
            · intro W_ hSw; (try dsimp only at hSw); go_simp; (first | done | with_reducible rfl)
            try simp only [Act.put, List.setIfInBounds_toArray, List.set_cons_zero, List.set_cons_succ]
            refine takeD (i := 11) (oi := _) (v := ?vv9) (d := some 149) rfl (by kernel_rfl) (by kernel_rfl) (by kernel_rfl) (by kernel_rfl) (fun _ _ _ h => h) (Or.inl ⟨by kernel_rfl, ?_⟩) (by assumption) ?_
            rotate_left 1
            · intro W_ hSw; (try dsimp only at hSw); go_simp; (first | done | with_reducible rfl)
            try simp only [Act.put, List.setIfInBounds_toArray, List.set_cons_zero, List.set_cons_succ]
            refine takeD (i := 12) (oi := _) (v := ?vv10) (d := some 150) rfl (by kernel_rfl) (by kernel_rfl) (by kernel_rfl) (by kernel_rfl) (fun _ _ _ h => h) (Or.inl ⟨by kernel_rfl, ?_⟩) (by assumption) ?_
            rotate_left 1
            · intro W_ hSw; (try dsimp only at hSw); go_simp; (first | done | with_reducible rfl)
            try simp only [Act.put, List.setIfInBounds_toArray, List.set_cons_zero, List.set_cons_succ]
            refine wpAnyH_ready (rs := [13]) (by kernel_rfl) (by simp) ?_
            refine AllReadyH.cons (o := _) rfl (fun K hK => ?_) AllReadyH.nil
            go_simp
            refine hK.out _ _ ?_ (fun hHeld => ?_)
            · exact (RAs.out.to b6).alloc _
            clear hK K
            try simp only [Act.put]
            try simp only [List.setIfInBounds_toArray]
            try simp only [List.set_cons_succ]
            try simp only [List.set_cons_zero]
            have HC6 := Lib.hid i6.C32
            have RP := new_agent w6
            have bW := bel_alloc b6 (.cells z32 35)
            have iP := i6.to (bel_alloc (Below.refl _ _) (.cells z32 35))
            have offP := i6.off (b := w6.heap.size) (.inr (Nat.le_refl _))
            have hgw : ws.heap.size ≤ w6.heap.size := b6.size
            obtain ⟨gP, hgP⟩ : ∃ g, w6.heap.size = g := ⟨_, rfl⟩
            rw [hgP] at RP offP hgw ⊢
            clear hgP
            refine wpAnyH_ready (rs := [14]) (by kernel_rfl) (by simp) ?_
            refine AllReadyH.cons (o := _) rfl (fun K hK => ?_) AllReadyH.nil
            (refine step_store_var rfl 35 (.tmp 24) (.tmp 149) rfl gP _ (agC A6 c6 s6 (prp bank tk ow tx S)) 32 rfl rfl RP size_32 rfl HC6.out (agC_one _) ?_)
            intro w10 r10 k10
            go_simp
            refine hK.out _ _ ?_ (fun hHeld => ?_)
            · exact (RAs.out.to bW).only k10 (by omega)
            clear hK K
            try simp only [Act.put, List.setIfInBounds_toArray, List.set_cons_zero, List.set_cons_succ]
            refine takeD (i := 15) (oi := _) (v := ?vv11) (d := some 25) rfl (by kernel_rfl) (by kernel_rfl) (by kernel_rfl) (by kernel_rfl) (fun _ _ _ h => h) (Or.inl ⟨by kernel_rfl, ?_⟩) (by assumption) ?_
            rotate_left 1
            · intro W_ hSw; (try dsimp only at hSw); go_simp; (first | done | with_reducible rfl)
            try simp only [Act.put, List.setIfInBounds_toArray, List.set_cons_zero, List.set_cons_succ]
            refine wpAnyH_done (by kernel_rfl) ?_ _
            go_wp2
            go_meet
            case rel => exact ⟨rfl, gP, A6, c6, s6, (by first | rfl | rw [hgP]), hgw, Lib.hid r10, Lib.hid ((iP.onlyO k10 offP).more (Nat.zero_le _)), Lib.hid (k10.to bW hgw)⟩
          · go_simp
            refine hK.out _ _ ?_ (fun hHeld => ?_)
            · exact (RAs.out.to b5).alloc _
            clear hK K
            try simp only [Act.put]
            try simp only [List.setIfInBounds_toArray]
            try simp only [List.set_cons_succ]
            try simp only [List.set_cons_zero]
            have RP5 := new_agent w5
            have b5a := bel_alloc b5 (.cells z32 35)
            have hgw : ws.heap.size ≤ w5.heap.size := b5.size
            have hlt5 : w5.heap.size < (w5.alloc (.cells z32 35)).heap.size := by rw [World.size_alloc]; exact Nat.lt_succ_self _
            refine wpAnyH_ready (rs := [9]) (by kernel_rfl) (by simp) ?_
            refine AllReadyH.cons (o := _) rfl (fun K hK => ?_) AllReadyH.nil
            go_simp
            (go_at_call 35; (with_reducible refine (kdo.out _ b5a).mono ?_); rintro e6 w6 ⟨A6, c6, s6, rfl, iP, hb6⟩; have bW : Below ws.heap.size ws w6 := b5a.trans (hb6.mono b5a.size))
            go_wp2_with fail
            refine hK.out _ _ ?_ (fun hHeld => ?_)
            · exact RAs.out.to bW
            clear hK K
            try simp only [Act.put, List.setIfInBounds_toArray, List.set_cons_zero, List.set_cons_succ]
            refine takeD (i := 10) (oi := _) (v := ?vv12) (d := some 138) rfl (by kernel_rfl) (by kernel_rfl) (by kernel_rfl) (by kernel_rfl) (fun _ _ _ h => h) (Or.inl ⟨by kernel_rfl, ?_⟩) (by assumption) ?_
            rotate_left 1
            · intro W_ hSw; (try dsimp only at hSw); go_simp; (first | done | with_reducible rfl)
            try simp only [Act.put, List.setIfInBounds_toArray, List.set_cons_zero, List.set_cons_succ]
            refine takeD (i := 11) (oi := _) (v := ?vv13) (d := some 149) rfl (by kernel_rfl) (by kernel_rfl) (by kernel_rfl) (by kernel_rfl) (fun _ _ _ h => h) (Or.inl ⟨by kernel_rfl, ?_⟩) (by assumption) ?_
            rotate_left 1
            · intro W_ hSw; (try dsimp only at hSw); go_simp; (first | done | with_reducible rfl)
            try simp only [Act.put, List.setIfInBounds_toArray, List.set_cons_zero, List.set_cons_succ]
            refine takeD (i := 12) (oi := _) (v := ?vv14) (d := some 150) rfl (by kernel_rfl) (by kernel_rfl) (by kernel_rfl) (by kernel_rfl) (fun _ _ _ h => h) (Or.inl ⟨by kernel_rfl, ?_⟩) (by assumption) ?_
            rotate_left 1
            · intro W_ hSw; (try dsimp only at hSw); go_simp; (first | done | with_reducible rfl)
            try simp only [Act.put, List.setIfInBounds_toArray, List.set_cons_zero, List.set_cons_succ]
            have HC6 := Lib.hid iP.C32
            have RP := RP5.to hb6
            have offP := iP.off (b := w5.heap.size) (.inl hlt5)
            obtain ⟨gP, hgP⟩ : ∃ g, w5.heap.size = g := ⟨_, rfl⟩
            rw [hgP] at RP offP hgw ⊢
            clear hgP
            refine wpAnyH_ready (rs := [14]) (by kernel_rfl) (by simp) ?_
            refine AllReadyH.cons (o := _) rfl (fun K hK => ?_) AllReadyH.nil
            (refine step_store_var rfl 35 (.tmp 24) (.tmp 149) rfl gP _ (agC A6 c6 s6 (prp bank tk ow tx S)) 32 rfl rfl RP size_32 rfl HC6.out (agC_one _) ?_)
            intro w10 r10 k10
            go_simp
            refine hK.out _ _ ?_ (fun hHeld => ?_)
            · exact (RAs.out.to bW).only k10 (by omega)
            clear hK K
            try simp only [Act.put, List.setIfInBounds_toArray, List.set_cons_zero, List.set_cons_succ]
            refine takeD (i := 15) (oi := _) (v := ?vv15) (d := some 25) rfl (by kernel_rfl) (by kernel_rfl) (by kernel_rfl) (by kernel_rfl) (fun _ _ _ h => h) (Or.inl ⟨by kernel_rfl, ?_⟩) (by assumption) ?_
            rotate_left 1
            · intro W_ hSw; (try dsimp only at hSw); go_simp; (first | done | with_reducible rfl)
            try simp only [Act.put, List.setIfInBounds_toArray, List.set_cons_zero, List.set_cons_succ]
            refine wpAnyH_done (by kernel_rfl) ?_ _
            go_wp2
            go_meet
            case rel => exact ⟨rfl, gP, A6, c6, s6, (by first | rfl | rw [hgP]), hgw, Lib.hid r10, Lib.hid ((iP.onlyO k10 offP).more (Nat.zero_le _)), Lib.hid (k10.to bW hgw)⟩
        · have bA1 : Below ws.heap.size ws ((ws.alloc (.cells z32 35)).drew) := (bel_alloc (Below.refl _ _) _).drew
          have bA2 : Below ws.heap.size ws (ws.drew.alloc (.cells z32 35)) := bel_alloc (Below.refl _ _).drew _
          have RPa := (new_agent ws).drew
          have RPb := new_agent ws.drew
          go_simp
          refine hK.out _ _ ?_ (fun hHeld => ?_)
          · first | exact (RAs.out.drew).alloc _ | exact (RAs.out.alloc _).drew
          clear hK K
          try simp only [Act.put]
          try simp only [List.setIfInBounds_toArray]
          try simp only [List.set_cons_succ]
          try simp only [List.set_cons_zero]
          refine wpAnyH_ready (rs := [7]) (by kernel_rfl) (by simp) ?_
          refine AllReadyH.cons (o := _) rfl (fun K hK => ?_) AllReadyH.nil
          go_simp
          (go_at_call 40; (first | with_reducible refine (ksum.out _ bA1).mono ?_ | with_reducible refine (ksum.out _ bA2).mono ?_); rintro e5 w5 ⟨rfl, hb5⟩; have b5 : Below ws.heap.size ws w5 := (by first | exact bA1.trans (hb5.mono bA1.size) | exact bA2.trans (hb5.mono bA2.size)); have RP5 : RowAt w5 ws.heap.size 35 (agC none 0 Stv.zero Ag0) := (by first | exact RPa.to hb5 | exact RPb.to hb5))
          go_wp2_with fail
          refine hK.out _ _ ?_ (fun hHeld => ?_)
          · exact RAs.out.to b5
          clear hK K
          try simp only [Act.put, List.setIfInBounds_toArray, List.set_cons_zero, List.set_cons_succ]
          refine takeD (i := 8) (oi := _) (v := ?vv16) (d := some 147) rfl (by kernel_rfl) (by kernel_rfl) (by kernel_rfl) (by kernel_rfl) (fun _ _ _ h => h) (Or.inl ⟨by kernel_rfl, ?_⟩) (by assumption) ?_
          rotate_left 1
          · intro W_ hSw; (try dsimp only at hSw); go_simp; (first | done | with_reducible rfl)
          try simp only [Act.put, List.setIfInBounds_toArray, List.set_cons_zero, List.set_cons_succ]
          have hlt5 := RP5.lt
          refine wpAnyH_ready (rs := [9]) (by kernel_rfl) (by simp) ?_
          refine AllReadyH.cons (o := _) rfl (fun K hK => ?_) AllReadyH.nil
          go_simp
          (go_at_call 35; (with_reducible refine (kdo.out _ b5).mono ?_); rintro e6 w6 ⟨A6, c6, s6, rfl, iP, hb6⟩; have bW : Below ws.heap.size ws w6 := b5.trans (hb6.mono b5.size))
          go_wp2_with fail
          refine hK.out _ _ ?_ (fun hHeld => ?_)
          · exact RAs.out.to bW
          clear hK K
          try simp only [Act.put, List.setIfInBounds_toArray, List.set_cons_zero, List.set_cons_succ]
          refine takeD (i := 10) (oi := _) (v := ?vv17) (d := some 138) rfl (by kernel_rfl) (by kernel_rfl) (by kernel_rfl) (by kernel_rfl) (fun _ _ _ h => h) (Or.inl ⟨by kernel_rfl, ?_⟩) (by assumption) ?_
          rotate_left 1
          · intro W_ hSw; (try dsimp only at hSw); go_simp; (first | done | with_reducible rfl)
          try simp only [Act.put, List.setIfInBounds_toArray, List.set_cons_zero, List.set_cons_succ]
          refine takeD (i := 11) (oi := _) (v := ?vv18) (d := some 149) rfl (by kernel_rfl) (by kernel_rfl) (by kernel_rfl) (by kernel_rfl) (fun _ _ _ h => h) (Or.inl ⟨by kernel_rfl, ?_⟩) (by assumption) ?_
          rotate_left 1
          · intro W_ hSw; (try dsimp only at hSw); go_simp; (first | done | with_reducible rfl)
          try simp only [Act.put, List.setIfInBounds_toArray, List.set_cons_zero, List.set_cons_succ]
          refine takeD (i := 12) (oi := _) (v := ?vv19) (d := some 150) rfl (by kernel_rfl) (by kernel_rfl) (by kernel_rfl) (by kernel_rfl) (fun _ _ _ h => h) (Or.inl ⟨by kernel_rfl, ?_⟩) (by assumption) ?_
          rotate_left 1
          · intro W_ hSw; (try dsimp only at hSw); go_simp; (first | done | with_reducible rfl)
          try simp only [Act.put, List.setIfInBounds_toArray, List.set_cons_zero, List.set_cons_succ]
          have HC6 := Lib.hid iP.C32
          have RP := RP5.to hb6
          have offP := iP.off (b := ws.heap.size) (.inl hlt5)
          obtain ⟨gP, hgP⟩ : ∃ g, g = ws.heap.size := ⟨_, rfl⟩
          have hgw : ws.heap.size ≤ gP := by rw [hgP]; exact Nat.le_refl _
          rw [← hgP] at RP offP
          rw [← hgP]
          clear bA1 bA2 RPa RPb RP5
          refine wpAnyH_ready (rs := [14]) (by kernel_rfl) (by simp) ?_
          refine AllReadyH.cons (o := _) rfl (fun K hK => ?_) AllReadyH.nil
          (refine step_store_var rfl 35 (.tmp 24) (.tmp 149) rfl gP _ (agC A6 c6 s6 (prp bank tk ow tx S)) 32 rfl rfl RP size_32 rfl HC6.out (agC_one _) ?_)
          intro w10 r10 k10
          go_simp
          refine hK.out _ _ ?_ (fun hHeld => ?_)
          · exact (RAs.out.to bW).only k10 (by omega)
          clear hK K
          try simp only [Act.put, List.setIfInBounds_toArray, List.set_cons_zero, List.set_cons_succ]
          refine takeD (i := 15) (oi := _) (v := ?vv20) (d := some 25) rfl (by kernel_rfl) (by kernel_rfl) (by kernel_rfl) (by kernel_rfl) (fun _ _ _ h => h) (Or.inl ⟨by kernel_rfl, ?_⟩) (by assumption) ?_
          rotate_left 1
          · intro W_ hSw; (try dsimp only at hSw); go_simp; (first | done | with_reducible rfl)
          try simp only [Act.put, List.setIfInBounds_toArray, List.set_cons_zero, List.set_cons_succ]
          refine wpAnyH_done (by kernel_rfl) ?_ _
          go_wp2
          go_meet
          case rel => exact ⟨rfl, gP, A6, c6, s6, (by first | rfl | rw [hgP]), hgw, Lib.hid r10, Lib.hid ((iP.onlyO k10 offP).more (Nat.zero_le _)), Lib.hid (k10.to bW hgw)⟩
      case rest =>
      obtain ⟨rfl, gP, A8, c8, s8, rfl, hgP, RP, IP, BP⟩ := hcut
      rename World => wp
      clear ksum kdo wk HZA RAs IAs FLs hlAs HCA
      have B3 := Lib.hid (BL.out.trans (BP.out.mono BL.out.size))
      replace RA := Lib.hid (RA.out.to B3.out)
      replace IA := Lib.hid (IA.out.to B3.out)
      replace FL := Lib.hid (FL.out.to B3.out)
      replace BK := Lib.hid (BK.out.trans (B3.out.mono BK.out.size))
      have HPR : Hid ((prp bank tk ow tx S).right) := Lib.hid (by have := (HRK.out tk htk1.1).doit IA.out.S8 ⟨ow, 2, tx, k, chk ps⟩; rw [← HS.out] at this ⊢; rw [clm_prepare HPL.out hn8 HO.out HX.out] at this; exact this)
      have HCP := Lib.hid IP.out.C32
      have p3 : wp.cell? ⟨gP, 3, none⟩ = some (.int .u8 2) := RP.out.cells 3
      have hlP := RP.out.lt
      clear BL BP B3 hgP
      go_upto_region 32 with fail
      clear p3
      go_upto_region 33 with (first | (refine wpList_load_var rfl 35 (.tmp 24) rfl (gP) rfl _ _ 32 RP.out Try.underlying35 rfl size_32 HCP.out ?_) | (refine wpList_store_var rfl 35 (.tmp 26) (.tmp 158) rfl wp.heap.size (agC none 0 Stv.zero Ag0) (agC A8 c8 s8 (prp bank tk ow tx S)) 32 rfl rfl (new_agent wp) size_32 rfl HCP.out (agC_one _) ?_; intro w_7 r_7 k_7; have R_7 := Lib.hid r_7; have HB_7 : Hid (Below wp.heap.size wp w_7) := Lib.hid (k_7.to (bel_alloc (Below.refl _ _) (.cells z32 35)) (Nat.le_refl _)); clear r_7 k_7))
      have B7 := HB_7
      have RQ := R_7
      obtain ⟨gQ, hgQ⟩ : ∃ gQ, wp.heap.size = gQ := ⟨_, rfl⟩
      have HGQ := Lib.hid hgQ
      rw [hgQ] at RQ ⊢
      clear HB_7 R_7 hgQ
      try simp only [Act.put]
      have IQ : Hid (AgIs A8 c8 s8 (prp bank tk ow tx S) w_7 0) := Lib.hid (IP.out.to B7.out)
      go_upto_region 34 with fail
      go_loopw [161] (fun i wr => ∃ j : Nat, ∃ (Aj : Option Addr) (cj : Nat) (sj : Stv), j ≤ mo ∧ i = .int .i64 (j : Int) ∧ Hid (RowAt wr gQ 35 (agC Aj cj sj (prp bank tk ow tx S))) ∧ Hid (AgIs Aj cj sj (prp bank tk ow tx S) wr 0) ∧ Hid (Below wp.heap.size wp wr)) (fun i _ => mo - (intOf i).toNat)
      case atStart => exact ⟨0, A8, c8, s8, by omega, rfl, RQ, IQ, B7⟩
      case round =>
        rename World => wr
        clear RQ IQ B7
        obtain ⟨j, Aj, cj, sj, hj, rfl, RQ, IQ, BL⟩ := hrel
        by_cases hlj : j < mo
        · have hljI : (j : Int) < (mo : Int) := by omega
          have h0jI : (0 : Int) ≤ (j : Int) := by omega
          have HCQ := Lib.hid IQ.out.C32
          have hlQ := RQ.out.lt
          have ktk : Hid (Calls Try.prog 37 #[.agg (agC Aj cj sj (prp bank tk ow tx S)).toArray] wr (AgE wr (prp bank tk ow tx S))) := Lib.hid (agtick_any wr IQ.out HPR.out)
          go_wp2_with (refine wpList_load_var rfl 35 (.tmp 26) rfl (gQ) rfl _ _ 32 RQ.out Try.underlying35 rfl size_32 HCQ.out ?_)
          with_reducible refine (ktk.out).mono ?_
          rintro e5 w5 ⟨A5, c5, s5, rfl, i5, hb5⟩
          have I5 := Lib.hid i5
          have HC5 := Lib.hid i5.C32
          replace RQ := Lib.hid (RQ.out.to hb5)
          replace BL := Lib.hid (BL.out.trans (hb5.mono BL.out.size))
          have HCO := HCQ
          clear i5 hb5 ktk IQ
          go_upto_region 37 with (refine wpList_store_var rfl 35 (.tmp 26) (.tmp 165) rfl (gQ) _ (agC A5 c5 s5 (prp bank tk ow tx S)) 32 rfl rfl RQ.out size_32 (by first | rfl | exact HCO.out) HC5.out (agC_one _) ?_; intro w_8 r_8 k_8; have R_8 := Lib.hid r_8; have K_8 := Lib.hid k_8; clear r_8 k_8)
          have BL8 := Lib.hid (K_8.out.to BL.out (by rw [HGQ.out]; exact Nat.le_refl _))
          have I8 := Lib.hid ((I5.out.only K_8.out hlQ).more (Nat.zero_le _))
          clear I5 K_8 BL RQ HCO HCQ hlQ
          obtain ⟨b7, hb7⟩ : ∃ b7, ((j : Int) % 7 == 3) = b7 := ⟨_, rfl⟩
          go_upto_if 168 with fail
          cases b7
          · go_wp2
            go_roundw
            case rel => exact ⟨j + 1, A5, c5, s5, by omega, by go_num, R_8, I8, BL8⟩
            case measure => simp [intOf]; omega
          · have kbt : Hid (Calls Try.prog 39 #[.agg (agC A5 c5 s5 (prp bank tk ow tx S)).toArray] w_8 (AgE w_8 (prp bank tk ow tx S))) := Lib.hid (agboot_any w_8 I8.out)
            have hlQ := R_8.out.lt
            go_wp2_with (refine wpList_load_var rfl 35 (.tmp 26) rfl (gQ) rfl _ _ 32 R_8.out Try.underlying35 rfl size_32 HC5.out ?_)
            with_reducible refine (kbt.out).mono ?_
            rintro e9 w9 ⟨A9, c9, s9, rfl, i9, hb9⟩
            have HC9 := Lib.hid i9.C32
            have R9 := Lib.hid (R_8.out.to hb9)
            have BL9 := Lib.hid (BL8.out.trans (hb9.mono BL8.out.size))
            have I9 := Lib.hid i9
            have HCO := HC5
            clear i9 hb9 kbt
            go_wp2_with (refine wpList_store_var rfl 35 (.tmp 26) (.tmp 170) rfl (gQ) _ (agC A9 c9 s9 (prp bank tk ow tx S)) 32 rfl rfl R9.out size_32 (by first | rfl | exact HCO.out) HC9.out (agC_one _) ?_; intro w_10 r_10 k_10; have R_10 := Lib.hid r_10; have K_10 := Lib.hid k_10; clear r_10 k_10)
            go_roundw
            case rel => exact ⟨j + 1, A9, c9, s9, by omega, by go_num, R_10, Lib.hid ((I9.out.only K_10.out hlQ).more (Nat.zero_le _)), Lib.hid (K_10.out.to BL9.out (by rw [HGQ.out]; exact Nat.le_refl _))⟩
            case measure => simp [intOf]; omega
        have hjm : ¬ (j : Int) < (mo : Int) := by omega
        go_upto_region 40 with fail
        obtain ⟨com, hcom⟩ : ∃ g : Ag, (⟨Bk.over bank ps, ⟨0, 0⟩, 0, 0, tx, 0, ss0, tk⟩ : Ag) = g := ⟨_, rfl⟩
        have kdo : Hid (Calls Try.prog 35 #[.agg (agC Aj cj sj (prp bank tk ow tx S)).toArray, .agg #[.int .u16 (ow : Int), .int .u8 3, .int .u32 (tx : Int), .int .u16 0, .int .u32 0]] wr (AgOk wr com)) := Lib.hid ((agdo_any wr IQ.out HPR.out ⟨ow, 3, tx, 0, 0⟩ ⟨how, (by show 3 < 256; decide), htx, (by show 0 < 65536; decide), (by show 0 < 4294967296; decide)⟩).mono fun _ _ h => h.ok (by rw [← hcom, ← HS.out]; exact prp_commit HPL.out hn8 HO.out HX.out))
        have HCM : Hid (com.bank = Bk.over bank ps) := Lib.hid (by rw [← hcom])
        clear hcom
        have HCQ := Lib.hid IQ.out.C32
        have hlQ := RQ.out.lt
        go_wp2_with (refine wpList_load_var rfl 35 (.tmp 26) rfl (gQ) rfl _ _ 32 RQ.out Try.underlying35 rfl size_32 HCQ.out ?_)
        with_reducible refine (kdo.out).mono ?_
        rintro e11 w11 ⟨A11, c11, s11, rfl, i11, hb11⟩
        have I11 := Lib.hid i11
        have HC11 := Lib.hid i11.C32
        replace RQ := Lib.hid (RQ.out.to hb11)
        replace IQ := Lib.hid (IQ.out.to hb11)
        replace BL := Lib.hid (BL.out.trans (hb11.mono BL.out.size))
        clear i11 hb11 kdo
        go_upto_region 41 with (refine wpList_store_var rfl 35 (.tmp 28) (.tmp 178) rfl w11.heap.size (agC none 0 Stv.zero Ag0) (agC A11 c11 s11 com) 32 rfl rfl (new_agent w11) size_32 rfl HC11.out (agC_one _) ?_; intro w_12 r_12 k_12; have R_12 := Lib.hid r_12; have HB_12 : Hid (Below w11.heap.size w11 w_12) := Lib.hid (k_12.to (bel_alloc (Below.refl _ _) (.cells z32 35)) (Nat.le_refl _)); clear r_12 k_12)
        replace RQ := Lib.hid (RQ.out.to HB_12.out)
        replace IQ := Lib.hid (IQ.out.to HB_12.out)
        replace I11 := Lib.hid (I11.out.to HB_12.out)
        replace BL := Lib.hid (BL.out.trans (HB_12.out.mono BL.out.size))
        obtain ⟨gD, hgD⟩ : ∃ gD, w11.heap.size = gD := ⟨_, rfl⟩
        have RD := R_12
        rw [hgD] at RD ⊢
        clear HB_12 R_12 hgD
        try simp only [Act.put]
        replace RA := Lib.hid (RA.out.to BL.out)
        replace IA := Lib.hid (IA.out.to BL.out)
        replace FL := Lib.hid (FL.out.to BL.out)
        replace RP := Lib.hid (RP.out.to BL.out)
        replace IP := Lib.hid (IP.out.to BL.out)
        replace BK := Lib.hid (BK.out.trans (BL.out.mono BK.out.size))
        have a0 : w_12.cell? ⟨gA, 0, none⟩ = some (.slice Ak bank.length ck) := RA.out.cells 0
        have kv := Lib.hid (over_any Ak bank ck bank.length Af fl cf k w_12 IA.out.sq rfl IA.out.nl HNF.out FL.out.bl (by omega))
        go_wp2_with fail
        with_reducible refine (kv.out).mono ?_
        rintro e13 w13 ⟨hb13, hov⟩
        rw [if_pos H64.out, HP.out, if_pos (Bk.fit_iff.2 HPS.out)] at hov
        obtain ⟨A13, c13, rfl, o13⟩ := hov
        have HS13 := Lib.hid (Sq.of_own o13)
        replace RP := Lib.hid (RP.out.to hb13)
        replace IP := Lib.hid (IP.out.to hb13)
        replace RQ := Lib.hid (RQ.out.to hb13)
        replace IQ := Lib.hid (IQ.out.to hb13)
        replace RD := Lib.hid (RD.out.to hb13)
        replace I11 := Lib.hid (I11.out.to hb13)
        replace BK := Lib.hid (BK.out.trans (hb13.mono BK.out.size))
        clear hb13 o13 kv a0
        have ks := Lib.hid (agsame_any true w13 IP.out IQ.out (by simp))
        go_wp2_with (first | (refine wpList_load_var rfl 35 (.tmp 24) rfl (gP) rfl _ _ 32 RP.out Try.underlying35 rfl size_32 HCP.out ?_) | (refine wpList_load_var rfl 35 (.tmp 26) rfl (gQ) rfl _ _ 32 RQ.out Try.underlying35 rfl size_32 HCQ.out ?_))
        with_reducible refine (ks.out).mono ?_
        rintro e14 w14 ⟨rfl, hb14⟩
        replace RD := Lib.hid (RD.out.to hb14)
        replace I11 := Lib.hid (I11.out.to hb14)
        replace HS13 := Lib.hid ((HS13.out.below hb14).more hb14.size)
        replace BK := Lib.hid (BK.out.trans (hb14.mono BK.out.size))
        clear hb14 ks
        have d0 : w14.cell? ⟨gD, 0, none⟩ = some (.slice A11 com.bank.length c11) := RD.out.cells 0
        have kw := Lib.hid (lowWords_any A11 A13 com.bank (Bk.over bank ps) c11 c13 com.bank.length 64 true w14 rfl ((Bk.over_length _ _).trans H64.out) I11.out.sq HS13.out (by have := I11.out.small; omega) (by simp [HCM.out]))
        go_wp2_with fail
        with_reducible refine (kw.out).mono ?_
        rintro e15 w15 ⟨rfl, hb15⟩
        replace BK := Lib.hid (BK.out.trans (hb15.mono BK.out.size))
        clear hb15 kw d0
        go_wp2_with fail
        with_reducible refine (awake20_any _).mono ?_
        rintro e16 w16 ⟨rfl, hq16⟩
        have BZ16 := Lib.hid (BK.out.trans (hq16.mono BK.out.size))
        clear hq16
        go_wp2
        go_ret
        exact ⟨rfl, BZ16.out⟩
end Go.Proofs.Ytajbghjjpebndaa
