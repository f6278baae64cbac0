/- TxidOnce: the walk (printed by gento.py). -/
import Derived.Test.YtalaobpehkgilaaTxO2
import Derived.Deep.DeepCutAuto
namespace Go.Proofs.Ytalaobpehkgilaa
open Go.RowKit
set_option linter.unusedVariables false
attribute [local go_sem] Later.cell Later.frozen setCell_twice
attribute [local go_sem high] sliced_zero
set_option maxRecDepth 100000 in
set_option maxHeartbeats 4000000 in
theorem txidOnce_walk (fi : Nat) (hfi : fi < 4294967296) (A : Option Addr) (l : List TOp) (c : Nat) (w : World) (h : TOps w w.heap.size A l) (hlc : l.length ≤ c) (hc : c ≤ 9223372036854775807) (hA : A = none → c = 0) :
    Calls Try.prog 3 #[.int .u32 (fi : Int), .slice A l.length c] w fun e w' => e = .returned (.bool true) ∧ Below w.heap.size w w' := by
  have HB := Lib.hid h
  have kw := Lib.hid (fun w => awake_any w)
  obtain ⟨n, hn⟩ : ∃ n : Nat, n = min l.length 150 := ⟨_, rfl⟩
  have hmin : ∀ w, (Builtin.min_ #[3, 3] 3 #[.int .i64 (l.length : Int), .int .i64 150]).run Try.prog w = .ok (.int .i64 (n : Int)) w := fun w => run_min2n w _ _ l.length 150 n hn
  have hnl : n ≤ l.length := by omega
  have hnc : n ≤ c := by omega
  have hn150 : n ≤ 150 := by omega
  obtain ⟨bg, hbg⟩ : ∃ bg, bg = max fi 1 := ⟨_, rfl⟩
  have hmax : ∀ w, (Builtin.max_ #[2, 2] 2 #[.int .i64 (fi : Int), .int .i64 1]).run Try.prog w = .ok (.int .i64 (bg : Int)) w := fun w => run_max2n w _ _ fi 1 bg hbg
  have hb1 : 1 ≤ bg ∧ bg ≤ 4294967295 := by omega
  have hgr : bg = max (Tx.gr ([(⟨1, fi, 0, false, none, 0, 0⟩ : Rec)].map Rec.nums)) 1 := by rw [hbg]; congr 1; exact (grT_one fi).symm
  have ON0 : Hid (Once 0 [fi] bg bg (bg - 1) 0) := Lib.hid (by rw [hbg]; exact Once.begin_ hfi)
  have kto := Lib.hid (fun (w : World) (n B : Nat) (hn : n = w.heap.size) (hB : n < B) (h : B = w.heap.size + 1) => tx_open_any (some ⟨n, 0, none⟩) [(⟨1, fi, 0, false, none, 0, 0⟩ : Rec)] 1 bg (w.alloc (.cells #[.int .u8 1, .int .u32 (fi : Int), .int .u8 0, .bool false, .slice none 0 0] 35)) (Recs.one w ⟨1, fi, 0, false, none, 0, 0⟩ 35 n _ hn (by simp [hn])) (by intro r hr; simp at hr; subst hr; exact ⟨by simp, hfi, by simp⟩) (by simp) hgr)
  have hbgI : ((bg - 1 : Nat) : Int) = (bg : Int) - 1 := by omega
  have HBG := Lib.hid hbgI
  clear h hn hgr hbg hbgI
  go_enter Try.func3, Try.ntmps3
  go_wp2_with fail
  refine (new_any 8000 w (by decide)).mono ?_
  rintro e w2 ⟨rfl, k2, b2⟩
  have K2 := Lib.hid k2
  have BE := Lib.hid b2
  obtain ⟨gd, hgd⟩ : ∃ gd, w.heap.size = gd := ⟨_, rfl⟩
  have HGD := Lib.hid hgd
  rw [hgd] at K2
  have hgd0 : w.heap.size ≤ gd := by omega
  rw [show (Value.pointer (some ⟨w.heap.size, 0, none⟩)) = Value.pointer (some ⟨gd, 0, none⟩) by rw [hgd]]
  clear hgd k2 b2
  have ko := open_any K2.out
  rw [Dk.lopen_new] at ko
  go_wp2_with fail
  refine ko.mono ?_
  clear ko
  rintro e w3 ⟨A3, c3, pl, Ar, m, cr, rs, dk3, mv3, fr3, rfl, ol3, hrs3, hnl3, apg, apa, hz3, hnz3⟩
  obtain ⟨gl, rfl, lg3, hgl3, hag3, _⟩ := hz3 rfl
  have hgl0 : gl ≠ gd := by have := K2.out.lt; omega
  have K3 := Lib.hid dk3
  have L3 := Lib.hid lg3
  have HAG := Lib.hid hag3
  replace BE := Lib.hid (BE.out.trans ((K2.out.moves mv3).mono hgd0))
  clear dk3 mv3 fr3 ol3 hrs3 hnl3 apg apa hz3 hnz3 lg3 hgl3 hag3 K2
  obtain ⟨D1, hD1, hH1, hr1⟩ := once_first fi
  have kap := lappend_any K3.out L3.out hgl0 HAG.out (rv fi) none 0 0 rfl (rv_fit hfi) Sq.nil (fun _ => rfl)
  rw [hD1] at kap
  have HH1 := Lib.hid hH1
  have HR1 := Lib.hid hr1
  clear hD1 hH1 hr1
  go_wp2_with fail
  refine kap.mono ?_
  clear kap
  rintro e w4 ⟨rfl, Ad1, cd1, dk1, mv1, fr1⟩
  have hgl4 : gl < w3.heap.size := L3.out.lt
  replace BE := Lib.hid (BE.out.trans ((K3.out.moves mv1).mono hgd0))
  replace L3 := Lib.hid (mv1.row L3.out hgl0 HAG.out)
  replace HAG : Hid (∀ p, Ad1 = some p → p.block ≠ gl) := Lib.hid (fun p hp => by rcases fr1 with f | f; exact HAG.out p (f.symm.trans hp); have := f p hp; omega)
  replace K3 := Lib.hid dk1
  clear dk1 mv1 fr1 hgl4
  go_wp2_with fail
  refine (kto.out w4 w4.heap.size _ rfl (Nat.lt_succ_self _) rfl).mono ?_
  clear kto
  rintro e w5 ⟨rfl, hb⟩
  have bb : Below w4.heap.size w4 w5 := (bel_alloc (Below.refl _ _) _).trans (hb.mono (by simp))
  replace K3 := Lib.hid (K3.out.to bb)
  replace L3 := Lib.hid (L3.out.to bb)
  replace BE := Lib.hid (BE.out.trans (bb.mono BE.out.size))
  clear hb bb
  have hz5 := BE.out.size
  obtain ⟨w6, hw6⟩ : ∃ w6, w5.alloc (.cells #[.int .u32 (bg : Int), .int .u32 (bg : Int)] 37) = w6 := ⟨_, rfl⟩
  have bb : Below w5.heap.size w5 w6 := by rw [← hw6]; exact bel_alloc (Below.refl _ _) _
  have r9 : RowAt (w5.alloc (.cells (idC bg bg).toArray 37)) w5.heap.size 37 (idC bg bg) := RowAt.new' w5 w5.heap.size 37 (idC bg bg) rfl
  have TX : Hid (Tx3 w6 gd gl w5.heap.size D1 Ad1 cd1 bg bg) := Lib.hid ⟨K3.out.to bb, L3.out.to bb, by rw [← hw6]; exact r9, hgl0, (by have := K3.out.lt; omega), (by have := L3.out.lt; omega), HAG.out, fun p hp => by have := (own_at K3.out.own p hp).2.1; omega⟩
  replace BE := Lib.hid (BE.out.trans (bb.mono BE.out.size))
  have HW6 := Lib.hid hw6
  clear hw6 bb r9 K3 L3 HAG
  go_upto_region 8 with fail
  rw [HW6.out]
  obtain ⟨gx, hgx⟩ : ∃ gx, w5.heap.size = gx := ⟨_, rfl⟩
  rw [hgx] at TX ⊢
  have hgx0 : w.heap.size ≤ gx := by rw [← hgx]; exact hz5
  clear hgx HW6
  go_wp2
  rw [← HBG.out]
  clear HBG
  go_loopw [7, 10, 11, 59] (fun v7 v10 v11 i wr => ∃ (k : Nat) (T : List Nat) (N E La gn gl : Nat) (D : Dk) (Ad : Option Addr) (cd : Nat), k ≤ n ∧ v7 = .pointer (some ⟨gl, 0, none⟩) ∧ v10 = .int .i64 (La : Int) ∧ v11 = .int .i64 (gn : Int) ∧ i = .int .i64 (k : Int) ∧ Tx3 wr gd gl gx D Ad cd N E ∧ Hid (D.Has (T.map rv)) ∧ Hid (D.room = 8000) ∧ Hid (Once k T N E La gn) ∧ Below w.heap.size w wr) (fun _ _ _ i _ => n - (intOf i).toNat)
  case atStart => exact ⟨0, [fi], bg, bg, bg - 1, 0, gl, D1, Ad1, cd1, by omega, rfl, rfl, rfl, rfl, TX.out, HH1, HR1, ON0, BE.out⟩
  case round =>
    clear TX BE HH1 HR1 ON0
    rename World => wr
    obtain ⟨k, T, N, E, La, gn, gl, D, Ad, cd, hk, rfl, rfl, rfl, rfl, htx, HH0, HR0, ON, hbe⟩ := hrel
    by_cases hlt : k < n
    · obtain ⟨go, oo, o, hA', hg, ho, hok, hd⟩ := (HB.out.below hbe).at_ (k := k) (by omega)
      obtain ⟨cr, kp, sp⟩ := o
      have hkp : kp < 256 := hok.keep
      have hsp : sp < 256 := hok.sparks
      have d0 : wr.cell? ⟨go, oo + k * 3 + 0, none⟩ = some (.bool cr) := hd 0 _ rfl
      have d1 : wr.cell? ⟨go, oo + k * 3 + 1, none⟩ = some (.int .u8 (kp : Int)) := hd 1 _ rfl
      have d2 : wr.cell? ⟨go, oo + k * 3 + 2, none⟩ = some (.int .u8 (sp : Int)) := hd 2 _ rfl
      rw [Nat.add_zero] at d0
      have hltI : (k : Int) < (n : Int) := by omega
      have h0I : (0 : Int) ≤ (k : Int) := by omega
      have hgr : go < wr.heap.size := Nat.lt_of_lt_of_le hg hbe.size
      cases hA'
      have hgdw : gd < wr.heap.size := htx.dk.lt
      have hgxw : gx < wr.heap.size := htx.xr.lt
      have ba := bel_alloc (Below.refl wr.heap.size wr) (.cells (TOp.C ⟨cr, kp, sp⟩).toArray 40)
      have TX := Lib.hid (htx.to ba)
      have BE := Lib.hid (hbe.trans (ba.mono hbe.size))
      have OR := Lib.hid (RowAt.new' wr wr.heap.size 40 (TOp.C ⟨cr, kp, sp⟩) rfl)
      have HAO : Hid (∀ p, Ad = some p → p.block ≠ wr.heap.size) := Lib.hid (fun p hp => by have := (own_at htx.dk.own p hp).2.1; omega)
      clear htx hbe hok ho hd ba
      obtain ⟨wo, hwo⟩ : ∃ wo, wr.alloc (.cells #[.bool cr, .int .u8 (kp : Int), .int .u8 (sp : Int)] 40) = wo := ⟨_, rfl⟩
      rw [show wr.alloc (.cells (TOp.C ⟨cr, kp, sp⟩).toArray 40) = wo from hwo] at TX BE OR
      have HWO := Lib.hid hwo
      clear hwo
      go_upto_region 13 with fail
      rw [HWO.out]
      obtain ⟨g0, hg0⟩ : ∃ g0, wr.heap.size = g0 := ⟨_, rfl⟩
      rw [hg0] at OR HAO hgdw hgxw ⊢
      clear HWO hg0 d0 d1 d2 hgr
      have oclt : g0 < (wo).heap.size := OR.out.lt
      have oclu : g0 < (wo).heap.size + 1 := Nat.lt_succ_of_lt OR.out.lt
      have oc0 : (wo).cell? ⟨g0, 0, none⟩ = some (.bool cr) := OR.out.cells 0
      have ocz0 : (wo).frozen? ⟨g0, 0, none⟩ = false := OR.out.frozen 0
      have oc1 : (wo).cell? ⟨g0, 1, none⟩ = some (.int .u8 (kp : Int)) := OR.out.cells 1
      have ocz1 : (wo).frozen? ⟨g0, 1, none⟩ = false := OR.out.frozen 1
      have oc2 : (wo).cell? ⟨g0, 2, none⟩ = some (.int .u8 (sp : Int)) := OR.out.cells 2
      have ocz2 : (wo).frozen? ⟨g0, 2, none⟩ = false := OR.out.frozen 2
      go_upto_if 65 with fail
      go_cut [] (fun wx => ∃ D1, DkAt wx gd gd Ad cd D1 ∧ Moves gd Ad wo wx ∧ D1.Has (T.map rv) ∧ D1.room = 8000)
      case first =>
        by_cases hs : 0 < sp
        · have q0 : decide ((0 : Int) < (sp : Int)) = true := decide_eq_true (by omega)
          go_wp2_with fail
          refine (sparks_any TX.out.dk (sp : Int) (by omega)).mono ?_
          rintro e wa ⟨rfl, dk1, ko⟩
          go_wp2
          go_meet
          case rel => exact ⟨D.sparks sp, dk1, Moves.of_only ko, HH0.out.sparks _, HR0.out⟩
        · have q0 : decide ((0 : Int) < (sp : Int)) = false := decide_eq_false (by omega)
          go_wp2
          go_meet
          case rel => exact ⟨D, TX.out.dk, Moves.refl _ _ _, HH0.out, HR0.out⟩
      case rest =>
        obtain ⟨Dx, dk1, mv1, hh1, hr1⟩ := hcut
        have fr1 : Ad = Ad ∨ ∀ p, Ad = some p → wo.heap.size ≤ p.block := .inl rfl
        have HH := Lib.hid hh1
        have HR := Lib.hid hr1
        clear hh1 hr1 HH0 HR0 oclt oclu oc0 oc1 oc2 ocz0 ocz1 ocz2
        have hlo := OR.out.lt
        replace OR := Lib.hid (mv1.row OR.out (by omega) HAO.out)
        replace BE := Lib.hid (BE.out.trans (TX.out.moved mv1 hgd0))
        replace TX := Lib.hid (TX.out.moves mv1 dk1 fr1)
        replace HAO : Hid (∀ p, Ad = some p → p.block ≠ g0) := Lib.hid (fun p hp => by rcases fr1 with f | f; exact HAO.out p (f.symm.trans hp); have := f p hp; omega)
        clear dk1 mv1 fr1 hlo
        have ovlt : g0 < (wc).heap.size := OR.out.lt
        have ovlu : g0 < (wc).heap.size + 1 := Nat.lt_succ_of_lt OR.out.lt
        have ov0 : (wc).cell? ⟨g0, 0, none⟩ = some (.bool cr) := OR.out.cells 0
        have ovz0 : (wc).frozen? ⟨g0, 0, none⟩ = false := OR.out.frozen 0
        have ov1 : (wc).cell? ⟨g0, 1, none⟩ = some (.int .u8 (kp : Int)) := OR.out.cells 1
        have ovz1 : (wc).frozen? ⟨g0, 1, none⟩ = false := OR.out.frozen 1
        have ov2 : (wc).cell? ⟨g0, 2, none⟩ = some (.int .u8 (sp : Int)) := OR.out.cells 2
        have ovz2 : (wc).frozen? ⟨g0, 2, none⟩ = false := OR.out.frozen 2
        cases cr
        · go_wp2_with (refine wpList_load_var rfl 37 (.tmp 9) rfl gx rfl (idC N E) _ 2 TX.out.xr Try.underlying37 rfl size_ids rfl ?_)
          by_cases hne : N = E ∧ N < 4294967295
          · obtain ⟨rfl, hN⟩ := hne
            obtain ⟨m, hm⟩ : ∃ m, m = min (N + 16) 4294967295 := ⟨_, rfl⟩
            obtain ⟨hmf, hNm⟩ := min_top hN hm
            obtain ⟨N1, hN1⟩ : ∃ x, x = N + 1 := ⟨_, rfl⟩
            have HN1 := Lib.hid hN1
            have HM := Lib.hid hm
            refine (need_yes N wc hN m hm).mono ?_
            rintro e wn ⟨rfl, bb⟩
            clear hm hN1
            replace TX := Lib.hid (TX.out.to bb)
            replace OR := Lib.hid (OR.out.to bb)
            replace BE := Lib.hid (BE.out.trans (bb.mono BE.out.size))
            clear bb
            have HA14 : Hid (∀ p, Ad = some p → p.block ≠ wn.heap.size) := Lib.hid (fun p hp => by have := (own_at TX.out.dk.own p hp).2.1; omega)
            have hg14 : gd < wn.heap.size := TX.out.dk.lt
            obtain ⟨wp, hw_⟩ : ∃ w_, wn.alloc (.cells #[.int .u8 1, .int .u32 (m : Int), .int .u8 0, .bool false, .slice none 0 0] 35) = w_ := ⟨_, rfl⟩
            have bb : Below wn.heap.size wn wp := by rw [← hw_]; exact bel_alloc (Below.refl _ _) _
            have r_ : RowAt (wn.alloc (.cells (rcV 1 m 0 false none 0 0).toArray 35)) wn.heap.size 35 (rcV 1 m 0 false none 0 0) := RowAt.new' wn wn.heap.size 35 (rcV 1 m 0 false none 0 0) rfl
            have R14 : Hid (RowAt wp wn.heap.size 35 (rcV 1 m 0 false none 0 0)) := Lib.hid (by rw [← hw_]; exact r_)
            have HW_ := Lib.hid hw_
            clear hw_ r_
            replace TX := Lib.hid (TX.out.to bb)
            replace OR := Lib.hid (OR.out.to bb)
            replace BE := Lib.hid (BE.out.trans (bb.mono BE.out.size))
            clear bb
            go_upto_region 17 with fail
            rw [HW_.out]
            obtain ⟨g14, hg_⟩ : ∃ g_, wn.heap.size = g_ := ⟨_, rfl⟩
            rw [hg_] at R14 ⊢
            rw [hg_] at HA14 hg14
            clear HW_ hg_
            have kap := lappend_any TX.out.dk TX.out.lg TX.out.ld TX.out.agl (rv m) none 0 0 rfl (rv_fit hmf) Sq.nil (fun _ => rfl)
            have h6 := Dk.lappend_six HH.out.off (rv_right m) (by rw [rv_size, HH.out.l, all_rv, HR.out]; have := ON.out.few; omega)
            have hla := Dk.lappend_has HH.out (rv m)
            have hlr := (Dk.lappend_room Dx (rv m)).trans HR.out
            have hok := TX.out.dk.ok
            obtain ⟨D1, E1, hd⟩ : ∃ D1 E1, Dx.lappend (rv m) = (D1, E1) := ⟨_, _, rfl⟩
            rw [hd] at kap h6 hla hlr
            clear hd
            have H6 := Lib.hid h6
            have HLA := Lib.hid hla
            replace HR : Hid (D1.room = 8000) := Lib.hid hlr
            clear h6 hla hlr hok
            go_wp2_with (refine wpList_load_var rfl 35 (.tmp 14) rfl g14 rfl (rcV 1 m 0 false none 0 0) _ 5 R14.out Try.underlying35 rfl size_rec rfl ?_)
            refine kap.mono ?_
            clear kap
            rintro e wg ⟨rfl, Ax, cx, dk1, mv1, fr1⟩
            replace R14 := Lib.hid (mv1.row R14.out (by omega) HA14.out)
            have hlo := OR.out.lt
            replace OR := Lib.hid (mv1.row OR.out (by omega) HAO.out)
            replace BE := Lib.hid (BE.out.trans (TX.out.moved mv1 hgd0))
            replace TX := Lib.hid (TX.out.moves mv1 dk1 fr1)
            replace HAO : Hid (∀ p, Ax = some p → p.block ≠ g0) := Lib.hid (fun p hp => by rcases fr1 with f | f; exact HAO.out p (f.symm.trans hp); have := f p hp; omega)
            clear dk1 mv1 fr1 hlo
            clear HA14
            rcases H6.out with hE | ⟨hE, hoff⟩
            · replace hE : E1 = 0 := hE
              subst hE
              have hH : D1.Has ((T ++ [m]).map rv) := by
                rcases HLA.out with ⟨_, _, h⟩ | ⟨h, _⟩ | ⟨h, _⟩
                · rw [List.map_append]; exact h
                · cases h
                · rcases h with h | h <;> cases h
              replace HH := Lib.hid hH
              have ONX : Hid (Once (k + 1) (T ++ [m]) N1 m N 0) := Lib.hid (by rw [HN1.out]; exact ON.out.reserve hN HM.out)
              clear hH H6 HLA
              go_wp2_with (first | (refine wpList_load_var rfl 37 (.tmp 9) rfl gx rfl (idC N N) _ 2 TX.out.xr Try.underlying37 rfl size_ids rfl ?_) | (refine wpList_load_var rfl 35 (.tmp 14) rfl g14 rfl (rcV 1 m 0 false none 0 0) _ 5 R14.out Try.underlying35 rfl size_rec rfl ?_))
              refine (reserve_any N m wg hN HM.out).mono ?_
              rintro e wh ⟨rfl, bb⟩
              replace TX := Lib.hid (TX.out.to bb)
              replace OR := Lib.hid (OR.out.to bb)
              replace BE := Lib.hid (BE.out.trans (bb.mono BE.out.size))
              clear bb
              obtain ⟨wi, hw_⟩ : ∃ w_, wh.alloc (.cells #[.int .u32 (N : Int), .int .u32 (m : Int)] 37) = w_ := ⟨_, rfl⟩
              have bb : Below wh.heap.size wh wi := by rw [← hw_]; exact bel_alloc (Below.refl _ _) _
              have r_ : RowAt (wh.alloc (.cells (idC N m).toArray 37)) wh.heap.size 37 (idC N m) := RowAt.new' wh wh.heap.size 37 (idC N m) rfl
              have R16 : Hid (RowAt wi wh.heap.size 37 (idC N m)) := Lib.hid (by rw [← hw_]; exact r_)
              have HW_ := Lib.hid hw_
              clear hw_ r_
              replace TX := Lib.hid (TX.out.to bb)
              replace OR := Lib.hid (OR.out.to bb)
              replace BE := Lib.hid (BE.out.trans (bb.mono BE.out.size))
              clear bb
              go_upto_region 20 with fail
              rw [HW_.out]
              obtain ⟨g16, hg_⟩ : ∃ g_, wh.heap.size = g_ := ⟨_, rfl⟩
              rw [hg_] at R16 ⊢
              clear HW_ hg_
              go_wp2_with (first
                | (refine wpList_load_var rfl 37 (.tmp 16) rfl g16 rfl (idC N m) _ 2 R16.out Try.underlying37 rfl size_ids rfl ?_)
                | (refine wpList_load_var rfl 37 (.tmp 9) rfl gx rfl (idC N m) _ 2 TXn.out.xr Try.underlying37 rfl size_ids rfl ?_)
                | (refine wpList_store_var rfl 37 (.tmp 9) (.tmp 92) rfl gx (idC N N) (idC N m) 2 rfl rfl TX.out.xr size_ids rfl rfl (idC_one _ _) ?_
                   intro wj r_ k_
                   have TXn := Lib.hid (TX.out.store k_ r_)
                   have ORn := Lib.hid (OR.out.only k_ (by omega))
                   have BEn := Lib.hid (BE.out.trans (k_.below hgx0))
                   clear r_ k_))
              replace TX := TXn
              replace OR := ORn
              replace BE := BEn
              clear TXn ORn BEn
              refine (tx_take_next N N1 m wj HN1.out hN hNm).mono ?_
              rintro e wt ⟨rfl, bb⟩
              replace TX := Lib.hid (TX.out.to bb)
              replace OR := Lib.hid (OR.out.to bb)
              replace BE := Lib.hid (BE.out.trans (bb.mono BE.out.size))
              clear bb
              have hLa := ON.out.lo
              have hhi := ON.out.hi
              have hgk := ON.out.gk
              have hNE := ON.out.ne
              have htop := ON.out.top
              have b1 : decide ((N : Int) ≤ (La : Int)) = false := decide_eq_false (by omega)
              have b2 : decide ((La : Int) + 1 + 16 * (gn : Int) < (N : Int)) = false := decide_eq_false (by omega)
              have b3 : decide ((4294967295 : Int) ≤ (N : Int)) = false := decide_eq_false (by omega)
              obtain ⟨wu, hw_⟩ : ∃ w_, wt.alloc (.cells #[.int .u32 (N1 : Int), .int .u32 (m : Int)] 37) = w_ := ⟨_, rfl⟩
              have bb : Below wt.heap.size wt wu := by rw [← hw_]; exact bel_alloc (Below.refl _ _) _
              have r_ : RowAt (wt.alloc (.cells (idC N1 m).toArray 37)) wt.heap.size 37 (idC N1 m) := RowAt.new' wt wt.heap.size 37 (idC N1 m) rfl
              have R18 : Hid (RowAt wu wt.heap.size 37 (idC N1 m)) := Lib.hid (by rw [← hw_]; exact r_)
              have HW_ := Lib.hid hw_
              clear hw_ r_
              replace TX := Lib.hid (TX.out.to bb)
              replace OR := Lib.hid (OR.out.to bb)
              replace BE := Lib.hid (BE.out.trans (bb.mono BE.out.size))
              clear bb
              go_upto_region 24 with fail
              rw [HW_.out]
              obtain ⟨g18, hg_⟩ : ∃ g_, wt.heap.size = g_ := ⟨_, rfl⟩
              rw [hg_] at R18 ⊢
              clear HW_ hg_
              go_wp2_with (first
                | (refine wpList_load_var rfl 37 (.tmp 18) rfl g18 rfl (idC N1 m) _ 2 R18.out Try.underlying37 rfl size_ids rfl ?_)
                | (refine wpList_store_var rfl 37 (.tmp 9) (.tmp 134) rfl gx (idC N m) (idC N1 m) 2 rfl rfl TX.out.xr size_ids rfl rfl (idC_one _ _) ?_
                   intro wv r_ k_
                   have TXn := Lib.hid (TX.out.store k_ r_)
                   have ORn := Lib.hid (OR.out.only k_ (by omega))
                   have BEn := Lib.hid (BE.out.trans (k_.below hgx0))
                   clear r_ k_))
              replace TX := TXn
              replace OR := ORn
              replace BE := BEn
              clear TXn ORn BEn
              refine (off_any TX.out.dk).mono ?_
              rintro e_ w_ ⟨rfl, rfl⟩
              rw [HH.out.off]
              go_wp2
              go_roundw
              case rel => exact ⟨k + 1, T ++ [m], N1, m, N, 0, gl, D1, Ax, cx, by omega, rfl, by go_num, by go_num, by go_num, TX.out, HH, HR, ONX, BE.out⟩
              case measure => simp [intOf]; omega
            · replace hE : E1 = 6 := hE
              subst hE
              have HOFF : Hid (D1.off = true) := Lib.hid hoff
              have hT : D1.Tail (T.map rv) (rv m) := by
                rcases HLA.out with ⟨h, _⟩ | ⟨_, _, h⟩ | ⟨h, _⟩
                · cases h
                · exact h
                · rcases h with h | h <;> cases h
              have HC : Hid (∀ n : Int, ((D1.crash n).lopen).2.2 = 0 ∧ ∃ T1, ((D1.crash n).lopen).2.1 = T1.map rv ∧ ((D1.crash n).lopen).1.Has (T1.map rv) ∧ ∃ N1, Once (k + 1) T1 N1 N1 La (gn + 1)) := Lib.hid (fun n => by
                have h1 := hT.crash TX.out.dk.ok.safe n
                have h2 := Dk.lopen_tail h1.1 (good_rv ON.out.fit) ⟨rv_right m, rv_fit hmf⟩ h1.2.1 h1.2.2.1
                rcases h2 with ⟨h3, h4 | h4, h5⟩ | ⟨_, _, h5⟩
                · exact ⟨h3, T, h4, by rw [h4] at h5; exact h5, N, ON.out.crash⟩
                · exact ⟨h3, T ++ [m], by rw [h4, List.map_append]; rfl, by rw [h4] at h5; rw [List.map_append]; exact h5, m, ON.out.tail hN HM.out⟩
                · exact absurd h1.2.2.2 h5)
              clear hT hoff H6 HLA R14
              go_wp2_with (refine wpList_load_var rfl 37 (.tmp 9) rfl gx rfl (idC N N) _ 2 TX.out.xr Try.underlying37 rfl size_ids rfl ?_)
              refine (tx_take_none N wg hN).mono ?_
              rintro e wt ⟨rfl, bb⟩
              replace TX := Lib.hid (TX.out.to bb)
              replace OR := Lib.hid (OR.out.to bb)
              replace BE := Lib.hid (BE.out.trans (bb.mono BE.out.size))
              clear bb
              have hgk := ON.out.gk
              obtain ⟨wu, hw_⟩ : ∃ w_, wt.alloc (.cells #[.int .u32 (N : Int), .int .u32 (N : Int)] 37) = w_ := ⟨_, rfl⟩
              have bb : Below wt.heap.size wt wu := by rw [← hw_]; exact bel_alloc (Below.refl _ _) _
              have r_ : RowAt (wt.alloc (.cells (idC N N).toArray 37)) wt.heap.size 37 (idC N N) := RowAt.new' wt wt.heap.size 37 (idC N N) rfl
              have R18 : Hid (RowAt wu wt.heap.size 37 (idC N N)) := Lib.hid (by rw [← hw_]; exact r_)
              have HW_ := Lib.hid hw_
              clear hw_ r_
              replace TX := Lib.hid (TX.out.to bb)
              replace OR := Lib.hid (OR.out.to bb)
              replace BE := Lib.hid (BE.out.trans (bb.mono BE.out.size))
              clear bb
              go_upto_region 24 with fail
              rw [HW_.out]
              obtain ⟨g18, hg_⟩ : ∃ g_, wt.heap.size = g_ := ⟨_, rfl⟩
              rw [hg_] at R18 ⊢
              clear HW_ hg_
              go_wp2_with fail
              refine (off_any TX.out.dk).mono ?_
              rintro e_ w_ ⟨rfl, rfl⟩
              rw [HOFF.out]
              go_wp2_with (first
                | (refine wpList_load_var rfl 37 (.tmp 18) rfl g18 rfl (idC N N) _ 2 R18.out Try.underlying37 rfl size_ids rfl ?_)
                | (refine wpList_store_var rfl 37 (.tmp 9) (.tmp 134) rfl gx (idC N N) (idC N N) 2 rfl rfl TX.out.xr size_ids rfl rfl (idC_one _ _) ?_
                   intro wv r_ k_
                   have TXn := Lib.hid (TX.out.store k_ r_)
                   have ORn := Lib.hid (OR.out.only k_ (by omega))
                   have BEn := Lib.hid (BE.out.trans (k_.below hgx0))
                   clear r_ k_))
              replace TX := TXn
              replace OR := ORn
              replace BE := BEn
              clear TXn ORn BEn
              refine (off_any TX.out.dk).mono ?_
              rintro e_ w_ ⟨rfl, rfl⟩
              rw [HOFF.out]
              clear ovlt ovlu ov0 ov1 ov2 ovz0 ovz1 ovz2
              have owlt : g0 < (wv).heap.size := OR.out.lt
              have owlu : g0 < (wv).heap.size + 1 := Nat.lt_succ_of_lt OR.out.lt
              have ow0 : (wv).cell? ⟨g0, 0, none⟩ = some (.bool false) := OR.out.cells 0
              have owz0 : (wv).frozen? ⟨g0, 0, none⟩ = false := OR.out.frozen 0
              have ow1 : (wv).cell? ⟨g0, 1, none⟩ = some (.int .u8 (kp : Int)) := OR.out.cells 1
              have owz1 : (wv).frozen? ⟨g0, 1, none⟩ = false := OR.out.frozen 1
              have ow2 : (wv).cell? ⟨g0, 2, none⟩ = some (.int .u8 (sp : Int)) := OR.out.cells 2
              have owz2 : (wv).frozen? ⟨g0, 2, none⟩ = false := OR.out.frozen 2
              go_wp2_with fail
              have oqlt : g0 < (wv).heap.size := OR.out.lt
              have oqlu : g0 < (wv).heap.size + 1 := Nat.lt_succ_of_lt OR.out.lt
              have oq0 : (wv).cell? ⟨g0, 0, none⟩ = some (.bool false) := OR.out.cells 0
              have oqz0 : (wv).frozen? ⟨g0, 0, none⟩ = false := OR.out.frozen 0
              have oq1 : (wv).cell? ⟨g0, 1, none⟩ = some (.int .u8 (kp : Int)) := OR.out.cells 1
              have oqz1 : (wv).frozen? ⟨g0, 1, none⟩ = false := OR.out.frozen 1
              have oq2 : (wv).cell? ⟨g0, 2, none⟩ = some (.int .u8 (sp : Int)) := OR.out.cells 2
              have oqz2 : (wv).frozen? ⟨g0, 2, none⟩ = false := OR.out.frozen 2
              refine (crash_any TX.out.dk (kp : Int) (by omega) (by omega)).mono ?_
              rintro e wa ⟨rfl, dk1, ko⟩
              have mv1 := Moves.of_only (A := Ax) ko
              have fr1 : Ax = Ax ∨ ∀ p, Ax = some p → wv.heap.size ≤ p.block := .inl rfl
              clear ko
              have hlo := OR.out.lt
              replace OR := Lib.hid (mv1.row OR.out (by omega) HAO.out)
              replace BE := Lib.hid (BE.out.trans (TX.out.moved mv1 hgd0))
              replace TX := Lib.hid (TX.out.moves mv1 dk1 fr1)
              replace HAO : Hid (∀ p, Ax = some p → p.block ≠ g0) := Lib.hid (fun p hp => by rcases fr1 with f | f; exact HAO.out p (f.symm.trans hp); have := f p hp; omega)
              clear dk1 mv1 fr1 hlo
              obtain ⟨hE3, T1, hG3, hH3, N1, hon1⟩ := HC.out (kp : Int)
              have hrm := Dk.lopen_room (D1.crash (kp : Int))
              obtain ⟨Dy, hDy⟩ : ∃ x, D1.crash (kp : Int) = x := ⟨_, rfl⟩
              rw [hDy] at TX hE3 hG3 hH3 hrm
              have hrm2 : Dy.room = 8000 := by rw [← hDy]; exact HR.out
              obtain ⟨D3, G3, E3, ho⟩ : ∃ D3 G3 E3, Dy.lopen = (D3, G3, E3) := ⟨_, _, _, rfl⟩
              have ko := open_any TX.out.dk
              rw [ho] at ko hE3 hG3 hH3 hrm
              replace hE3 : E3 = 0 := hE3
              subst hE3
              have HG3 : Hid (G3 = T1.map rv) := Lib.hid hG3
              have HH3 : Hid (D3.Has (T1.map rv)) := Lib.hid hH3
              have HR3 : Hid (D3.room = 8000) := Lib.hid (hrm.trans hrm2)
              have ON1 := Lib.hid hon1
              have hlx := TX.out.xr.lt
              have hld := TX.out.dk.lt
              clear hDy ho hG3 hH3 hrm hrm2 hon1 HC HR
              go_wp2_with fail
              refine ko.mono ?_
              clear ko
              rintro e wb ⟨Ad3, cd3, pl, Ar, mr, cr, rs, dk1, mv1, fr1, rfl, ol, hrs, hnl, apg, apa, hz, hnz⟩
              obtain ⟨gl3, rfl, hlg3, hgl3, hag3, _⟩ := hz rfl
              have hlo := OR.out.lt
              replace OR := Lib.hid (mv1.row OR.out (by omega) HAO.out)
              replace BE := Lib.hid (BE.out.trans (TX.out.moved mv1 hgd0))
              replace TX := Lib.hid (TX.out.moves mv1 dk1 fr1)
              replace HAO : Hid (∀ p, Ad3 = some p → p.block ≠ g0) := Lib.hid (fun p hp => by rcases fr1 with f | f; exact HAO.out p (f.symm.trans hp); have := f p hp; omega)
              clear dk1 mv1 fr1 hlo
              replace TX := Lib.hid (TX.out.log hlg3 (by omega) (by omega) hag3)
              have RS := Lib.hid (ol.rcs (fun x hx => ⟨((good_rv ON1.out.fit) x.p (by rw [← HG3.out, ← show rs.map Rc.p = G3 from hrs]; exact List.mem_map_of_mem hx)).2, (hnl x hx).1⟩))
              have kto := tx_open_rc Ar rs cr mr N1 wb T1 ol.len (by rw [← HG3.out]; exact hrs) RS.out (by
                have h1 : (rs.map Rc.p).length = (T1.map rv).length := by rw [← HG3.out]; exact congrArg List.length hrs
                rw [List.length_map, List.length_map, ol.len] at h1
                have := ON1.out.few
                omega) ON1.out.e
              clear hlg3 hgl3 hag3 ol hrs hnl apg apa hz hnz RS hlx hld
              go_wp2_with fail
              refine kto.mono ?_
              clear kto
              rintro e wd ⟨rfl, bb⟩
              replace TX := Lib.hid (TX.out.to bb)
              replace OR := Lib.hid (OR.out.to bb)
              replace BE := Lib.hid (BE.out.trans (bb.mono BE.out.size))
              clear bb
              go_wp2_with (first
                | (refine wpList_store_var rfl 37 (.tmp 9) (.tmp 155) rfl gx (idC N N) (idC N1 N1) 2 rfl rfl TX.out.xr size_ids rfl rfl (idC_one _ _) ?_
                   intro we r_ k_
                   have TXn := Lib.hid (TX.out.store k_ r_)
                   have ORn := Lib.hid (OR.out.only k_ (by omega))
                   have BEn := Lib.hid (BE.out.trans (k_.below hgx0))
                   clear r_ k_))
              go_roundw
              case rel => exact ⟨k + 1, T1, N1, N1, La, gn + 1, gl3, D3, Ad3, cd3, by omega, rfl, rfl, by go_num, by go_num, TXn.out, HH3, HR3, ON1, BEn.out⟩
              case measure => simp [intOf]; omega
          · have hNt := ON.out.top
            have hNe := ON.out.ne
            refine (need_no N E wc (by omega) (by omega) (by omega)).mono ?_
            rintro e wn ⟨rfl, bb⟩
            replace TX := Lib.hid (TX.out.to bb)
            replace OR := Lib.hid (OR.out.to bb)
            replace BE := Lib.hid (BE.out.trans (bb.mono BE.out.size))
            clear bb
            obtain ⟨wp, hw_⟩ : ∃ w_, wn.alloc (.cells #[.int .u8 0, .int .u32 0, .int .u8 0, .bool false, .slice none 0 0] 35) = w_ := ⟨_, rfl⟩
            have bb : Below wn.heap.size wn wp := by rw [← hw_]; exact bel_alloc (Below.refl _ _) _
            have r_ : RowAt (wn.alloc (.cells (rcV 0 0 0 false none 0 0).toArray 35)) wn.heap.size 35 (rcV 0 0 0 false none 0 0) := RowAt.new' wn wn.heap.size 35 (rcV 0 0 0 false none 0 0) rfl
            have R14 : Hid (RowAt wp wn.heap.size 35 (rcV 0 0 0 false none 0 0)) := Lib.hid (by rw [← hw_]; exact r_)
            have HW_ := Lib.hid hw_
            clear hw_ r_
            replace TX := Lib.hid (TX.out.to bb)
            replace OR := Lib.hid (OR.out.to bb)
            replace BE := Lib.hid (BE.out.trans (bb.mono BE.out.size))
            clear bb
            go_upto_region 17 with fail
            rw [HW_.out]
            obtain ⟨g14, hg_⟩ : ∃ g_, wn.heap.size = g_ := ⟨_, rfl⟩
            rw [hg_] at R14 ⊢
            clear HW_ hg_
            go_wp2_with (refine wpList_load_var rfl 37 (.tmp 9) rfl gx rfl (idC N E) _ 2 TX.out.xr Try.underlying37 rfl size_ids rfl ?_)
            by_cases hT : N = 4294967295
            · have hb4 : decide ((La : Int) < 4294967294 - 16 * (gn : Int)) = false := decide_eq_false (by have := ON.out.hi; omega)
              have ONX := Lib.hid ON.out.more
              have hLa := ON.out.lo
              have hgk := ON.out.gk
              refine (tx_take_top N E wp hT).mono ?_
              rintro e wt ⟨rfl, bb⟩
              clear hT hne
              replace TX := Lib.hid (TX.out.to bb)
              replace OR := Lib.hid (OR.out.to bb)
              replace BE := Lib.hid (BE.out.trans (bb.mono BE.out.size))
              clear bb
              obtain ⟨wu, hw_⟩ : ∃ w_, wt.alloc (.cells #[.int .u32 (N : Int), .int .u32 (E : Int)] 37) = w_ := ⟨_, rfl⟩
              have bb : Below wt.heap.size wt wu := by rw [← hw_]; exact bel_alloc (Below.refl _ _) _
              have r_ : RowAt (wt.alloc (.cells (idC N E).toArray 37)) wt.heap.size 37 (idC N E) := RowAt.new' wt wt.heap.size 37 (idC N E) rfl
              have R18 : Hid (RowAt wu wt.heap.size 37 (idC N E)) := Lib.hid (by rw [← hw_]; exact r_)
              have HW_ := Lib.hid hw_
              clear hw_ r_
              replace TX := Lib.hid (TX.out.to bb)
              replace OR := Lib.hid (OR.out.to bb)
              replace BE := Lib.hid (BE.out.trans (bb.mono BE.out.size))
              clear bb
              go_upto_region 24 with fail
              rw [HW_.out]
              obtain ⟨g18, hg_⟩ : ∃ g_, wt.heap.size = g_ := ⟨_, rfl⟩
              rw [hg_] at R18 ⊢
              clear HW_ hg_
              go_wp2_with (first
                | (refine wpList_load_var rfl 37 (.tmp 18) rfl g18 rfl (idC N E) _ 2 R18.out Try.underlying37 rfl size_ids rfl ?_)
                | (refine wpList_store_var rfl 37 (.tmp 9) (.tmp 134) rfl gx (idC N E) (idC N E) 2 rfl rfl TX.out.xr size_ids rfl rfl (idC_one _ _) ?_
                   intro wv r_ k_
                   have TXn := Lib.hid (TX.out.store k_ r_)
                   have ORn := Lib.hid (OR.out.only k_ (by omega))
                   have BEn := Lib.hid (BE.out.trans (k_.below hgx0))
                   clear r_ k_))
              replace TX := TXn
              replace OR := ORn
              replace BE := BEn
              clear TXn ORn BEn
              refine (off_any TX.out.dk).mono ?_
              rintro e_ w_ ⟨rfl, rfl⟩
              rw [HH.out.off]
              go_wp2
              go_roundw
              case rel => exact ⟨k + 1, T, N, E, La, gn, gl, Dx, Ad, cd, by omega, rfl, by go_num, by go_num, by go_num, TX.out, HH, HR, ONX, BE.out⟩
              case measure => simp [intOf]; omega
            · have hN : N < 4294967295 := by omega
              have hNm : N < E := by omega
              obtain ⟨N1, hN1⟩ : ∃ x, x = N + 1 := ⟨_, rfl⟩
              have HN1 := Lib.hid hN1
              have ONX : Hid (Once (k + 1) T N1 E N 0) := Lib.hid (by rw [hN1]; exact ON.out.take hNm)
              refine (tx_take_next N N1 E wp hN1 hN hNm).mono ?_
              rintro e wt ⟨rfl, bb⟩
              clear hT hne hN1
              replace TX := Lib.hid (TX.out.to bb)
              replace OR := Lib.hid (OR.out.to bb)
              replace BE := Lib.hid (BE.out.trans (bb.mono BE.out.size))
              clear bb
              have hLa := ON.out.lo
              have hhi := ON.out.hi
              have hgk := ON.out.gk
              have hNE := ON.out.ne
              have htop := ON.out.top
              have b1 : decide ((N : Int) ≤ (La : Int)) = false := decide_eq_false (by omega)
              have b2 : decide ((La : Int) + 1 + 16 * (gn : Int) < (N : Int)) = false := decide_eq_false (by omega)
              have b3 : decide ((4294967295 : Int) ≤ (N : Int)) = false := decide_eq_false (by omega)
              obtain ⟨wu, hw_⟩ : ∃ w_, wt.alloc (.cells #[.int .u32 (N1 : Int), .int .u32 (E : Int)] 37) = w_ := ⟨_, rfl⟩
              have bb : Below wt.heap.size wt wu := by rw [← hw_]; exact bel_alloc (Below.refl _ _) _
              have r_ : RowAt (wt.alloc (.cells (idC N1 E).toArray 37)) wt.heap.size 37 (idC N1 E) := RowAt.new' wt wt.heap.size 37 (idC N1 E) rfl
              have R18 : Hid (RowAt wu wt.heap.size 37 (idC N1 E)) := Lib.hid (by rw [← hw_]; exact r_)
              have HW_ := Lib.hid hw_
              clear hw_ r_
              replace TX := Lib.hid (TX.out.to bb)
              replace OR := Lib.hid (OR.out.to bb)
              replace BE := Lib.hid (BE.out.trans (bb.mono BE.out.size))
              clear bb
              go_upto_region 24 with fail
              rw [HW_.out]
              obtain ⟨g18, hg_⟩ : ∃ g_, wt.heap.size = g_ := ⟨_, rfl⟩
              rw [hg_] at R18 ⊢
              clear HW_ hg_
              go_wp2_with (first
                | (refine wpList_load_var rfl 37 (.tmp 18) rfl g18 rfl (idC N1 E) _ 2 R18.out Try.underlying37 rfl size_ids rfl ?_)
                | (refine wpList_store_var rfl 37 (.tmp 9) (.tmp 134) rfl gx (idC N E) (idC N1 E) 2 rfl rfl TX.out.xr size_ids rfl rfl (idC_one _ _) ?_
                   intro wv r_ k_
                   have TXn := Lib.hid (TX.out.store k_ r_)
                   have ORn := Lib.hid (OR.out.only k_ (by omega))
                   have BEn := Lib.hid (BE.out.trans (k_.below hgx0))
                   clear r_ k_))
              replace TX := TXn
              replace OR := ORn
              replace BE := BEn
              clear TXn ORn BEn
              refine (off_any TX.out.dk).mono ?_
              rintro e_ w_ ⟨rfl, rfl⟩
              rw [HH.out.off]
              go_wp2
              go_roundw
              case rel => exact ⟨k + 1, T, N1, E, N, 0, gl, Dx, Ad, cd, by omega, rfl, by go_num, by go_num, by go_num, TX.out, HH, HR, ONX, BE.out⟩
              case measure => simp [intOf]; omega
        · have HC : Hid (∀ n : Int, ((Dx.crash n).lopen).2.2 = 0 ∧ ∃ T1, ((Dx.crash n).lopen).2.1 = T1.map rv ∧ ((Dx.crash n).lopen).1.Has (T1.map rv) ∧ ∃ N1, Once (k + 1) T1 N1 N1 La (gn + 1)) := Lib.hid (fun n => by
            have h1 := HH.out.crash n
            have h2 := Dk.lopen_has h1.1 (good_rv ON.out.fit) h1.2
            exact ⟨h2.1, T, h2.2.1, h2.2.2, E, ON.out.crash⟩)
          have hgk := ON.out.gk
          go_wp2_with fail
          have oqlt : g0 < (wc).heap.size := OR.out.lt
          have oqlu : g0 < (wc).heap.size + 1 := Nat.lt_succ_of_lt OR.out.lt
          have oq0 : (wc).cell? ⟨g0, 0, none⟩ = some (.bool true) := OR.out.cells 0
          have oqz0 : (wc).frozen? ⟨g0, 0, none⟩ = false := OR.out.frozen 0
          have oq1 : (wc).cell? ⟨g0, 1, none⟩ = some (.int .u8 (kp : Int)) := OR.out.cells 1
          have oqz1 : (wc).frozen? ⟨g0, 1, none⟩ = false := OR.out.frozen 1
          have oq2 : (wc).cell? ⟨g0, 2, none⟩ = some (.int .u8 (sp : Int)) := OR.out.cells 2
          have oqz2 : (wc).frozen? ⟨g0, 2, none⟩ = false := OR.out.frozen 2
          refine (crash_any TX.out.dk (kp : Int) (by omega) (by omega)).mono ?_
          rintro e wa ⟨rfl, dk1, ko⟩
          have mv1 := Moves.of_only (A := Ad) ko
          have fr1 : Ad = Ad ∨ ∀ p, Ad = some p → wc.heap.size ≤ p.block := .inl rfl
          clear ko
          have hlo := OR.out.lt
          replace OR := Lib.hid (mv1.row OR.out (by omega) HAO.out)
          replace BE := Lib.hid (BE.out.trans (TX.out.moved mv1 hgd0))
          replace TX := Lib.hid (TX.out.moves mv1 dk1 fr1)
          replace HAO : Hid (∀ p, Ad = some p → p.block ≠ g0) := Lib.hid (fun p hp => by rcases fr1 with f | f; exact HAO.out p (f.symm.trans hp); have := f p hp; omega)
          clear dk1 mv1 fr1 hlo
          obtain ⟨hE3, T1, hG3, hH3, N1, hon1⟩ := HC.out (kp : Int)
          have hrm := Dk.lopen_room (Dx.crash (kp : Int))
          obtain ⟨Dy, hDy⟩ : ∃ x, Dx.crash (kp : Int) = x := ⟨_, rfl⟩
          rw [hDy] at TX hE3 hG3 hH3 hrm
          have hrm2 : Dy.room = 8000 := by rw [← hDy]; exact HR.out
          obtain ⟨D3, G3, E3, ho⟩ : ∃ D3 G3 E3, Dy.lopen = (D3, G3, E3) := ⟨_, _, _, rfl⟩
          have ko := open_any TX.out.dk
          rw [ho] at ko hE3 hG3 hH3 hrm
          replace hE3 : E3 = 0 := hE3
          subst hE3
          have HG3 : Hid (G3 = T1.map rv) := Lib.hid hG3
          have HH3 : Hid (D3.Has (T1.map rv)) := Lib.hid hH3
          have HR3 : Hid (D3.room = 8000) := Lib.hid (hrm.trans hrm2)
          have ON1 := Lib.hid hon1
          have hlx := TX.out.xr.lt
          have hld := TX.out.dk.lt
          clear hDy ho hG3 hH3 hrm hrm2 hon1 HC HR
          go_wp2_with fail
          refine ko.mono ?_
          clear ko
          rintro e wb ⟨Ad3, cd3, pl, Ar, mr, cr, rs, dk1, mv1, fr1, rfl, ol, hrs, hnl, apg, apa, hz, hnz⟩
          obtain ⟨gl3, rfl, hlg3, hgl3, hag3, _⟩ := hz rfl
          have hlo := OR.out.lt
          replace OR := Lib.hid (mv1.row OR.out (by omega) HAO.out)
          replace BE := Lib.hid (BE.out.trans (TX.out.moved mv1 hgd0))
          replace TX := Lib.hid (TX.out.moves mv1 dk1 fr1)
          replace HAO : Hid (∀ p, Ad3 = some p → p.block ≠ g0) := Lib.hid (fun p hp => by rcases fr1 with f | f; exact HAO.out p (f.symm.trans hp); have := f p hp; omega)
          clear dk1 mv1 fr1 hlo
          replace TX := Lib.hid (TX.out.log hlg3 (by omega) (by omega) hag3)
          have RS := Lib.hid (ol.rcs (fun x hx => ⟨((good_rv ON1.out.fit) x.p (by rw [← HG3.out, ← show rs.map Rc.p = G3 from hrs]; exact List.mem_map_of_mem hx)).2, (hnl x hx).1⟩))
          have kto := tx_open_rc Ar rs cr mr N1 wb T1 ol.len (by rw [← HG3.out]; exact hrs) RS.out (by
            have h1 : (rs.map Rc.p).length = (T1.map rv).length := by rw [← HG3.out]; exact congrArg List.length hrs
            rw [List.length_map, List.length_map, ol.len] at h1
            have := ON1.out.few
            omega) ON1.out.e
          clear hlg3 hgl3 hag3 ol hrs hnl apg apa hz hnz RS hlx hld
          go_wp2_with fail
          refine kto.mono ?_
          clear kto
          rintro e wd ⟨rfl, bb⟩
          replace TX := Lib.hid (TX.out.to bb)
          replace OR := Lib.hid (OR.out.to bb)
          replace BE := Lib.hid (BE.out.trans (bb.mono BE.out.size))
          clear bb
          go_wp2_with (first
            | (refine wpList_store_var rfl 37 (.tmp 9) (.tmp 155) rfl gx (idC N E) (idC N1 N1) 2 rfl rfl TX.out.xr size_ids rfl rfl (idC_one _ _) ?_
               intro we r_ k_
               have TXn := Lib.hid (TX.out.store k_ r_)
               have ORn := Lib.hid (OR.out.only k_ (by omega))
               have BEn := Lib.hid (BE.out.trans (k_.below hgx0))
               clear r_ k_))
          go_roundw
          case rel => exact ⟨k + 1, T1, N1, N1, La, gn + 1, gl3, D3, Ad3, cd3, by omega, rfl, rfl, by go_num, by go_num, TXn.out, HH3, HR3, ON1, BEn.out⟩
          case measure => simp [intOf]; omega
    · obtain rfl : k = n := by omega
      have BE := Lib.hid hbe
      go_wp2_with fail
      refine (kw.out _).mono ?_
      rintro e w7 ⟨rfl, b7⟩
      go_wp2
      go_ret
      exact ⟨rfl, BE.out.trans (b7.mono BE.out.size)⟩
end Go.Proofs.Ytalaobpehkgilaa
