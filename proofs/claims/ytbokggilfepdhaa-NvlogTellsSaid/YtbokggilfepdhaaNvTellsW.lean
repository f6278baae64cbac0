/- NvlogTells: the walk. -/
import Derived.Test.YtbokggilfepdhaaNvTwo
import Derived.Test.YtbokggilfepdhaaNvOp
import Derived.Test.YtbokggilfepdhaaNvSame
import Derived.Test.YtbokggilfepdhaaNvAwk
import Derived.Test.YtbokggilfepdhaaBs
import Derived.Test.YtbokggilfepdhaaHeld
import Derived.Deep.DeepCutAuto
import Derived.Deep.CutBlock
namespace Go.Proofs.Ytbokggilfepdhaa
open Go.RowKit
set_option linter.unusedVariables false
attribute [local go_sem] Later.cell Later.frozen setCell_twice
set_option maxRecDepth 100000 in
set_option maxHeartbeats 4000000 in
theorem nvlogTells_walk (a : Nat) (ha : a < 65536) (A1 : Option Addr) (l1 : List Nat) (c1 : Nat) (A : Option Addr) (l : List NOp) (c : Nat) (A3 : Option Addr) (l3 : List Nat) (c3 : Nat) (w : World) (hB1 : Bs w w.heap.size A1 c1 l1) (h : NOps w w.heap.size A l) (hlc : l.length ≤ c) (hc : c ≤ 9223372036854775807) (hA : A = none → c = 0) (hB3 : Bs w w.heap.size A3 c3 l3) :
    Calls Try.prog 8 #[.int .u16 (a : Int), .slice A1 l1.length c1, .slice A l.length c, .slice A3 l3.length c3] w fun e w' => e = .returned (.bool true) ∧ Below w.heap.size w w' := by
  have HB := Lib.hid h
  have HB1 := Lib.hid hB1
  have HB3 := Lib.hid hB3
  have kw := Lib.hid (fun w => awake_any w)
  obtain ⟨n1, hn1⟩ : ∃ n, l1.length = n := ⟨_, rfl⟩
  obtain ⟨n3, hn3⟩ : ∃ n, l3.length = n := ⟨_, rfl⟩
  have HN1 := Lib.hid hn1
  have HN3 := Lib.hid hn3
  obtain ⟨r, hr⟩ : ∃ r, a % 3001 = r := ⟨_, rfl⟩
  have hrI : (a : Int) % 3001 = (r : Int) := by omega
  have hr2 : r ≤ 262144 := by omega
  have kl := nlight_any A l c w h hlc hc hA
  rw [hn1, hn3]
  have hc1 : n1 ≤ c1 ∧ c1 ≤ 9223372036854775807 := ⟨by rw [← hn1]; exact hB1.ln, hB1.cap⟩
  have hc3 : n3 ≤ c3 ∧ c3 ≤ 9223372036854775807 := ⟨by rw [← hn3]; exact hB3.ln, hB3.cap⟩
  clear h hr hB1 hB3 hn1 hn3
  go_enter Try.func8, Try.ntmps8
  go_wp2_with fail
  refine kl.mono ?_
  rintro e w1 ⟨b1, hif⟩
  have BE := Lib.hid b1
  have hz1 := b1.size
  clear kl b1
  by_cases hL : NLight l = true
  · rw [if_pos hL] at hif
    obtain ⟨c', rfl⟩ := hif
    obtain ⟨n, hn⟩ : ∃ n, (l.take 40).length = n := ⟨_, rfl⟩
    have HN := Lib.hid hn
    rw [hn]
    have hn40 : n ≤ 40 := by rw [← hn, List.length_take]; omega
    clear hn
    by_cases h1 : 400 < n1
    · have g1 : decide ((400 : Int) < (n1 : Int)) = true := decide_eq_true (by omega)
      clear h1
      go_wp2_with fail
      refine (kw.out _).mono ?_
      rintro e w7 ⟨rfl, b7⟩
      go_wp2
      go_ret
      exact ⟨rfl, BE.out.trans (b7.mono BE.out.size)⟩
    · have g1 : decide ((400 : Int) < (n1 : Int)) = false := decide_eq_false (by omega)
      by_cases h3 : 1000 < n3
      · have g3 : decide ((1000 : Int) < (n3 : Int)) = true := decide_eq_true (by omega)
        clear h1 h3
        go_wp2_with fail
        refine (kw.out _).mono ?_
        rintro e w7 ⟨rfl, b7⟩
        go_wp2
        go_ret
        exact ⟨rfl, BE.out.trans (b7.mono BE.out.size)⟩
      · have g3 : decide ((1000 : Int) < (n3 : Int)) = false := decide_eq_false (by omega)
        obtain ⟨G, q, hGq⟩ : ∃ G q, Nr.read l3 = (G, q) := ⟨_, _, rfl⟩
        have HGQ := Lib.hid hGq
        have hn3' : n3 ≤ 1000 := by omega
        have hn1' : n1 ≤ 400 := by omega
        have gnn : ((q : Int) != (q : Int)) = false := by simp
        have hmq : ∀ (xs : List Rc), xs.map Rc.p = G → xs.length ≤ 100000 := fun xs hx => by
          have h1 := Nr.all_few (Nr.read l3).1
          rw [← (Nr.read_back HB3.out.u).1, List.length_take, hGq, HN3.out] at h1
          have h2 := congrArg List.length hx
          rw [List.length_map] at h2
          dsimp only at h1
          omega
        have HMQ := Lib.hid hmq
        clear hGq hmq h1 h3
        go_wp2_with fail
        refine (nread_any A3 c3 n3 l3 HN3.out w1 (HB3.out.to BE.out).sq HB3.out.u HB3.out.nl hc3.1 hc3.2 (by omega)).mono ?_
        rintro e w2 hp
        obtain ⟨Ax, cx, mx, xs, rfl, hlx, hxs, rx, bb⟩ := hp.rcs HB3.out.u HGQ.out
        replace BE := Lib.hid (BE.out.trans (bb.mono BE.out.size))
        have LX := Lib.hid hlx
        have XS := Lib.hid hxs
        have RX := Lib.hid rx
        clear hp hlx hxs rx bb
        go_wp2_with fail
        refine (rread_any A3 c3 n3 l3 HN3.out w2 (HB3.out.to BE.out).sq HB3.out.u HB3.out.nl hc3.1 hc3.2 (by omega)).mono ?_
        rintro e w3 hp
        obtain ⟨Ay, cy, my, ys, rfl, hly, hys, ry, bb⟩ := hp.rcs HB3.out.u HGQ.out
        replace BE := Lib.hid (BE.out.trans (bb.mono BE.out.size))
        have ka := all_any Ax Ay xs ys cx cy mx my w3 LX.out hly (RX.out.to bb) ry (by rw [← LX.out]; exact HMQ.out xs XS.out)
        rw [(Nr.eqs_iff _ _).2 (XS.out.trans hys.symm)] at ka
        clear hp hly hys ry bb LX XS RX
        go_wp2_with fail
        refine ka.mono ?_
        clear ka
        rintro e w4 ⟨rfl, bb⟩
        replace BE := Lib.hid (BE.out.trans (bb.mono BE.out.size))
        have hz4 := BE.out.size
        clear bb
        go_wp2_with fail
        refine (new_any r w4 hr2).mono ?_
        rintro e w5 ⟨rfl, k5, bb⟩
        have K5 := Lib.hid k5
        replace BE := Lib.hid (BE.out.trans (bb.mono BE.out.size))
        obtain ⟨gd, hgd⟩ : ∃ gd, w4.heap.size = gd := ⟨_, rfl⟩
        rw [hgd] at K5 hz4 ⊢
        clear hgd k5 bb
        go_wp2_with fail
        refine (rnew_any r w5).mono ?_
        rintro e w6 ⟨rfl, bb⟩
        replace K5 := Lib.hid (K5.out.to bb)
        replace BE := Lib.hid (BE.out.trans (bb.mono BE.out.size))
        obtain ⟨gm, hgm⟩ : ∃ gm, w6.heap.size = gm := ⟨_, rfl⟩
        have HGM := Lib.hid hgm
        have hgdm : gd < gm := by rw [← hgm]; exact K5.out.lt
        clear bb hgm
        go_wp2_with fail
        have m7 : RowAt (w6.alloc (.cells (Dk.RC none 0 (Dk.new r).l.length (Dk.new r)).toArray 67)) gm 67 (Dk.RC none 0 (Dk.new r).l.length (Dk.new r)) := RowAt.new' _ _ _ _ HGM.out.symm
        obtain ⟨w7, hw7⟩ : ∃ w7, w6.alloc (.cells #[.int .i64 ((Dk.new r).room : Int), .int .i64 ((Dk.new r).safe : Int), .int .i64 (lf (Dk.new r).left), .slice none (Dk.new r).l.length 0, .bool (Dk.new r).off] 67) = w7 := ⟨_, rfl⟩
        have TW : Hid (Two w7 gd gm (Dk.new r) (Dk.new r) none 0 none 0) := Lib.hid ⟨by rw [← hw7]; exact K5.out.to (bel_alloc (Below.refl _ _) _), by rw [← hw7]; exact m7, Rb.nothing _, by omega, (fun p hp => by cases hp), (fun p hp => by cases hp), fun p q hp => by cases hp⟩
        replace BE : Hid (Below w.heap.size w w7) := Lib.hid (by rw [← hw7]; exact bel_alloc BE.out _)
        rw [HGM.out, hw7]
        clear hw7 m7 K5 HGM
        have HFR := Lib.hid (Dk.append_free r l1)
        obtain ⟨D0, hD0⟩ : ∃ D0, Dk.new r = D0 := ⟨_, rfl⟩
        rw [hD0] at TW HFR
        obtain ⟨D1, E1, hd⟩ : ∃ D1 E1, D0.append l1 = (D1, E1) := ⟨_, _, rfl⟩
        have kap := append_any TW.out.dk A1 c1 n1 l1 HN1.out (by omega) (HB1.out.to BE.out).sq HB1.out.u (fun hn p hp => by obtain ⟨b, o, h1, h2⟩ := HB1.out.lt hn; rw [h1] at hp; obtain rfl := Option.some.inj hp; show b ≠ gd; omega) (fun _ p q hp hq => by cases hq)
        have OK0 := Lib.hid TW.out.dk.ok
        rw [hd] at kap HFR
        have HD := Lib.hid hd
        clear hD0 hd
        refine kap.mono ?_
        clear kap
        rintro e w8 ⟨rfl, Ad1, cd1, dk1, mv1, fr1⟩
        replace BE := Lib.hid (BE.out.trans (TW.out.moved mv1 hz4))
        replace TW := Lib.hid (TW.out.moves mv1 dk1 fr1)
        clear dk1 mv1 fr1
        go_wp2_with (refine wpList_load_var rfl 67 (.tmp 16) rfl gm rfl (D0.RC none 0 D0.l.length) _ 5 TW.out.mr Try.underlying67 rfl size_nrd rfl ?_)
        have kra := rappend_any D0 none 0 w8 OK0.out TW.out.rb A1 c1 n1 l1 HN1.out (by omega) (HB1.out.to BE.out).sq HB1.out.u
        rw [HD.out] at kra
        refine kra.mono ?_
        clear kra
        rintro e w9 ⟨Am1, cm1, rfl, rb1, bb, fr1⟩
        have FR := Lib.hid (TW.out.fresh fr1)
        replace TW := Lib.hid (TW.out.to bb)
        replace BE := Lib.hid (BE.out.trans (bb.mono BE.out.size))
        have RB1 := Lib.hid rb1
        clear rb1 bb fr1
        go_wp2_with (
          refine wpList_store_var rfl 67 (.tmp 16) (.tmp 89) rfl gm (D0.RC none 0 D0.l.length) (D1.RC Am1 cm1 D1.l.length) 5 rfl rfl TW.out.mr size_nrd rfl rfl (RC_one Am1 cm1 _ D1) ?_
          intro w10 r10 k10
          have TW1 := Lib.hid (TW.out.store k10 r10 RB1.out FR.out)
          have BE1 := Lib.hid (BE.out.trans (k10.below (by omega)))
          clear r10 k10)
        clear TW BE RB1 FR OK0 HD
        obtain ⟨D2, G2, E2, ho⟩ : ∃ D2 G2 E2, D1.lopen = (D2, G2, E2) := ⟨_, _, _, rfl⟩
        have ko := open_any TW1.out.dk
        have kro := Lib.hid (fun W hW => ropen_any D1 Am1 cm1 W TW1.out.dk.ok (show Rb W Am1 cm1 D1.l from hW))
        have hfree := Dk.lopen_free HFR.out.1 HFR.out.2
        rw [ho] at ko kro hfree
        obtain rfl : E2 = 0 := hfree
        clear ho HFR
        refine ko.mono ?_
        clear ko
        rintro e w11 ⟨Ad2, cd2, pl, Ar, m, cr, rs, dk1, mv1, fr1, rfl, ol, hrs, hnl, apg, apa, hz, hnz⟩
        obtain ⟨gl, rfl, lg, hgl, hag, haq⟩ := hz rfl
        replace BE1 := Lib.hid (BE1.out.trans (TW1.out.moved mv1 hz4))
        have hlm := TW1.out.mr.lt
        have hld := TW1.out.dk.lt
        have LG : Hid (Lg w11 gl gd gm Ad2) := Lib.hid ⟨lg, by omega, by omega, hag⟩
        replace TW1 := Lib.hid (TW1.out.moves mv1 dk1 fr1)
        clear dk1 mv1 fr1 ol hrs hnl apg apa hz hnz lg hgl hag haq hlm hld
        go_wp2_with (refine wpList_load_var rfl 67 (.tmp 16) rfl gm rfl (D1.RC Am1 cm1 D1.l.length) _ 5 TW1.out.mr Try.underlying67 rfl size_nrd rfl ?_)
        refine (kro.out w11 TW1.out.rb).mono ?_
        clear kro
        rintro e w12 ⟨Am2, cm2, Ar2, m2, cr2, rs2, rfl, rb1, bb, fr1, ol2, hrs2, hnl2⟩
        have FR := Lib.hid (TW1.out.fresh fr1)
        replace TW1 := Lib.hid (TW1.out.to bb)
        replace LG := Lib.hid (LG.out.to bb)
        replace BE1 := Lib.hid (BE1.out.trans (bb.mono BE1.out.size))
        have RB1 := Lib.hid rb1
        clear rb1 bb fr1 ol2 hrs2 hnl2
        go_wp2_with (
          refine wpList_store_var rfl 67 (.tmp 16) (.tmp 100) rfl gm (D1.RC Am1 cm1 D1.l.length) (D2.RC Am2 cm2 D2.l.length) 5 rfl rfl TW1.out.mr size_nrd rfl rfl (RC_one Am2 cm2 _ D2) ?_
          intro w13 r13 k13
          have TW := Lib.hid (TW1.out.store k13 r13 RB1.out FR.out)
          have BE := Lib.hid (BE1.out.trans (k13.below (by omega)))
          replace LG := Lib.hid (LG.out.only k13)
          clear r13 k13)
        clear TW1 BE1 RB1 FR
        go_loopw [17, 105] (fun v17 i wr => ∃ (k gl : Nat) (D : Dk) (Ad : Option Addr) (cd : Nat) (Am : Option Addr) (cm : Nat), k ≤ n ∧ v17 = .pointer (some ⟨gl, 0, none⟩) ∧ i = .int .i64 (k : Int) ∧ Two wr gd gm D D Ad cd Am cm ∧ Lg wr gl gd gm Ad ∧ Below w.heap.size w wr) (fun _ i _ => n - (intOf i).toNat)
        case atStart => exact ⟨0, gl, D2, Ad2, cd2, Am2, cm2, by omega, rfl, rfl, TW.out, LG.out, BE.out⟩
        case round =>
          clear TW LG BE

          rename World => wr
          obtain ⟨k, gl, D, Ad, cd, Am, cm, hk, rfl, rfl, htw, hlg, hbe⟩ := hrel
          by_cases hlt : k < n
          · obtain ⟨go, oo, o, hA', hg, ho, hok, hd⟩ := (HB.out.below hbe).at_ (k := k) (by have := HN.out; rw [List.length_take] at this; omega)
            have d0 := hd 0 _ rfl
            have d1 := hd 1 _ rfl
            have d2 := hd 2 _ rfl
            have d3 := hd 3 _ rfl
            have d4 := hd 4 _ rfl
            have d5 := hd 5 _ rfl
            have d6 := hd 6 _ rfl
            rw [Nat.add_zero] at d0
            have hltI : (k : Int) < (n : Int) := by omega
            have h0I : (0 : Int) ≤ (k : Int) := by omega
            have hgr : go < wr.heap.size := Nat.lt_of_lt_of_le hg hbe.size
            cases hA'
            have HOB : Hid (o.x.p.text.length ≤ 200) := Lib.hid (of_decide_eq_true (show decide (∀ o ∈ l.take 40, o.x.p.text.length ≤ 200) = true from hL) o (List.mem_of_getElem? (i := k) (by rw [List.getElem?_take, if_pos (by omega)]; exact ho)))
            have hgdw : gd < wr.heap.size := htw.dk.lt
            have hgmw : gm < wr.heap.size := htw.mr.lt
            have ba := bel_alloc (Below.refl wr.heap.size wr) (.cells o.C.toArray 51)
            have TW := Lib.hid (htw.to ba)
            have LG := Lib.hid (hlg.to ba)
            have BE := Lib.hid (hbe.trans (ba.mono hbe.size))
            have XOK := Lib.hid (hok.x.below (ba.mono hbe.size))
            have XN := Lib.hid (And.intro hok.lo hok.hi)
            have HWH := Lib.hid hok.what
            have OR := Lib.hid (RowAt.new' wr wr.heap.size 51 o.C rfl)
            have HAO : Hid (∀ p, Ad = some p → p.block ≠ wr.heap.size) := Lib.hid (fun p hp => by have := (own_at htw.dk.own p hp).2.1; omega)
            have HAM : Hid (∀ p, Am = some p → p.block ≠ wr.heap.size) := Lib.hid (fun p hp => by have := htw.rb.lt p hp; omega)
            clear htw hlg hbe hok ho hd ba
            obtain ⟨wo, hwo⟩ : ∃ wo, wr.alloc (.cells #[.int .u8 (o.what : Int), .int .u8 (o.x.p.what : Int), .int .u32 (o.x.p.tx : Int), .int .u8 (o.x.p.who : Int), .bool o.x.p.yes, .slice o.x.A o.x.p.text.length o.x.c, .int .i64 o.n] 51) = wo := ⟨_, rfl⟩
            rw [show wr.alloc (.cells o.C.toArray 51) = wo from hwo] at TW LG BE XOK OR
            obtain ⟨m, hm⟩ : ∃ m, o.what % 6 = m := ⟨_, rfl⟩
            have hmI : (o.what : Int) % 6 = (m : Int) := by omega
            have hm6 : m < 6 := by omega
            have HM := Lib.hid hm
            have hzo : wr.heap.size < wo.heap.size := OR.out.lt
            have HWO := Lib.hid hwo
            clear hm hwo
            go_upto_block 2 with fail
            rw [HWO.out, hmI]
            obtain ⟨g0, hg0⟩ : ∃ g0, wr.heap.size = g0 := ⟨_, rfl⟩
            rw [hg0] at OR HAO HAM hgdw hgmw hzo ⊢
            clear HWO hg0 d0 d1 d2 d3 d4 d5 d6 hgr
            go_cut [17] (fun v17 wx => ∃ (gl1 : Nat) (D1 : Dk) (Ad1 : Option Addr) (cd1 : Nat) (Am1 : Option Addr) (cm1 : Nat), v17 = .pointer (some ⟨gl1, 0, none⟩) ∧ Two wx gd gm D1 D1 Ad1 cd1 Am1 cm1 ∧ Lg wx gl1 gd gm Ad1 ∧ Below w.heap.size w wx)
            case first =>
              go_upto_if 156 with fail
              obtain ⟨b1, hb1⟩ : ∃ b1, decide (m < 3) = b1 := ⟨_, rfl⟩
              go_cut [156] (fun v wx => v = .bool b1 ∧ wo = wx)
              case first =>
                by_cases q0 : m = 0
                · have t0 : ((m : Int) == 0) = true := by simp [q0]
                  obtain rfl : b1 = true := by rw [← hb1]; exact decide_eq_true (by omega)
                  clear q0 hb1
                  go_wp2
                  go_meet
                  case rel => exact ⟨congrArg Value.bool t0, rfl⟩
                · have t0 : ((m : Int) == 0) = false := by simp; omega
                  by_cases q1 : m = 1
                  · have t1 : ((m : Int) == 1) = true := by simp [q1]
                    obtain rfl : b1 = true := by rw [← hb1]; exact decide_eq_true (by omega)
                    clear q0 q1 hb1
                    go_wp2
                    go_meet
                    case rel => exact ⟨rfl, rfl⟩
                  · have t1 : ((m : Int) == 1) = false := by simp; omega
                    have t2 : ((m : Int) == 2) = b1 := by
                      rw [← hb1]
                      by_cases q2 : m = 2
                      · simp [q2]
                      · rw [decide_eq_false (by omega)]; simp; omega
                    clear q0 q1 hb1
                    go_wp2
                    go_meet
                    case rel => exact ⟨rfl, rfl⟩
              case rest =>
                obtain ⟨rfl, rfl⟩ := hcut
                cases b1
                · have hm3 : ¬ m < 3 := of_decide_eq_false hb1
                  have odlt : g0 < (wo).heap.size := OR.out.lt
                  have odlu : g0 < (wo).heap.size + 1 := Nat.lt_succ_of_lt OR.out.lt
                  have od0 : (wo).cell? ⟨g0, 0, none⟩ = some (.int .u8 (o.what : Int)) := OR.out.cells 0
                  have odz0 : (wo).frozen? ⟨g0, 0, none⟩ = false := OR.out.frozen 0
                  have od1 : (wo).cell? ⟨g0, 1, none⟩ = some (.int .u8 (o.x.p.what : Int)) := OR.out.cells 1
                  have odz1 : (wo).frozen? ⟨g0, 1, none⟩ = false := OR.out.frozen 1
                  have od2 : (wo).cell? ⟨g0, 2, none⟩ = some (.int .u32 (o.x.p.tx : Int)) := OR.out.cells 2
                  have odz2 : (wo).frozen? ⟨g0, 2, none⟩ = false := OR.out.frozen 2
                  have od3 : (wo).cell? ⟨g0, 3, none⟩ = some (.int .u8 (o.x.p.who : Int)) := OR.out.cells 3
                  have odz3 : (wo).frozen? ⟨g0, 3, none⟩ = false := OR.out.frozen 3
                  have od4 : (wo).cell? ⟨g0, 4, none⟩ = some (.bool o.x.p.yes) := OR.out.cells 4
                  have odz4 : (wo).frozen? ⟨g0, 4, none⟩ = false := OR.out.frozen 4
                  have od5 : (wo).cell? ⟨g0, 5, none⟩ = some (.slice o.x.A o.x.p.text.length o.x.c) := OR.out.cells 5
                  have odz5 : (wo).frozen? ⟨g0, 5, none⟩ = false := OR.out.frozen 5
                  have od6 : (wo).cell? ⟨g0, 6, none⟩ = some (.int .i64 o.n) := OR.out.cells 6
                  have odz6 : (wo).frozen? ⟨g0, 6, none⟩ = false := OR.out.frozen 6
                  by_cases q4 : m = 4
                  · have t4 : ((m : Int) == 4) = true := by simp [q4]
                    as_aux_lemma =>
                      clear hb1 q4 hm3
                      go_wp2_with fail
                      refine (sparks_any TW.out.dk o.n XN.out.2).mono ?_
                      rintro e wa ⟨rfl, dk1, ko⟩
                      have mv1 := Moves.of_only (A := Ad) ko
                      have fr1 : Ad = Ad ∨ ∀ p, Ad = some p → wo.heap.size ≤ p.block := .inl rfl
                      clear ko
                      replace XOK := Lib.hid (XOK.out.below (TW.out.moved mv1 hz4))
                      replace OR := Lib.hid (mv1.row OR.out (by omega) HAO.out)
                      replace BE := Lib.hid (BE.out.trans (TW.out.moved mv1 hz4))
                      replace LG := Lib.hid (LG.out.moves mv1 fr1)
                      replace TW := Lib.hid (TW.out.moves mv1 dk1 fr1)
                      clear dk1 mv1 fr1
                      have oelt : g0 < (wa).heap.size := OR.out.lt
                      have oelu : g0 < (wa).heap.size + 1 := Nat.lt_succ_of_lt OR.out.lt
                      have oe0 : (wa).cell? ⟨g0, 0, none⟩ = some (.int .u8 (o.what : Int)) := OR.out.cells 0
                      have oez0 : (wa).frozen? ⟨g0, 0, none⟩ = false := OR.out.frozen 0
                      have oe1 : (wa).cell? ⟨g0, 1, none⟩ = some (.int .u8 (o.x.p.what : Int)) := OR.out.cells 1
                      have oez1 : (wa).frozen? ⟨g0, 1, none⟩ = false := OR.out.frozen 1
                      have oe2 : (wa).cell? ⟨g0, 2, none⟩ = some (.int .u32 (o.x.p.tx : Int)) := OR.out.cells 2
                      have oez2 : (wa).frozen? ⟨g0, 2, none⟩ = false := OR.out.frozen 2
                      have oe3 : (wa).cell? ⟨g0, 3, none⟩ = some (.int .u8 (o.x.p.who : Int)) := OR.out.cells 3
                      have oez3 : (wa).frozen? ⟨g0, 3, none⟩ = false := OR.out.frozen 3
                      have oe4 : (wa).cell? ⟨g0, 4, none⟩ = some (.bool o.x.p.yes) := OR.out.cells 4
                      have oez4 : (wa).frozen? ⟨g0, 4, none⟩ = false := OR.out.frozen 4
                      have oe5 : (wa).cell? ⟨g0, 5, none⟩ = some (.slice o.x.A o.x.p.text.length o.x.c) := OR.out.cells 5
                      have oez5 : (wa).frozen? ⟨g0, 5, none⟩ = false := OR.out.frozen 5
                      have oe6 : (wa).cell? ⟨g0, 6, none⟩ = some (.int .i64 o.n) := OR.out.cells 6
                      have oez6 : (wa).frozen? ⟨g0, 6, none⟩ = false := OR.out.frozen 6
                      go_wp2_with (refine wpList_load_var rfl 67 (.tmp 16) rfl gm rfl (D.RC Am cm D.l.length) _ 5 TW.out.mr Try.underlying67 rfl size_nrd rfl ?_)
                      refine (rsparks_any D Am cm wa o.n).mono ?_
                      rintro e wb ⟨rfl, bb⟩
                      replace XOK := Lib.hid (XOK.out.below (bb.mono BE.out.size))
                      replace TW := Lib.hid (TW.out.to bb)
                      replace LG := Lib.hid (LG.out.to bb)
                      replace OR := Lib.hid (OR.out.to bb)
                      replace BE := Lib.hid (BE.out.trans (bb.mono BE.out.size))
                      clear bb
                      have RB1 : Hid (Rb wb Am cm (D.sparks o.n).l) := Lib.hid TW.out.rb
                      have FR := Lib.hid (TW.out.fresh (.inl rfl))
                      go_wp2_with (first
                        | (refine wpList_store_var rfl 67 (.tmp 16) (.tmp 227) rfl gm (D.RC Am cm D.l.length) ((D.sparks o.n).RC Am cm (D.sparks o.n).l.length) 5 rfl rfl TW.out.mr size_nrd rfl rfl (RC_one Am cm _ (D.sparks o.n)) ?_
                           intro wc r_ k_
                           have TWn := Lib.hid (TW.out.store k_ r_ RB1.out FR.out)
                           have LGn := Lib.hid (LG.out.only k_)
                           have XOKn := Lib.hid (XOK.out.below (k_.below (by omega : w.heap.size ≤ gm)))
                           have ORn := Lib.hid (OR.out.only k_ (by omega))
                           have BEn := Lib.hid (BE.out.trans (k_.below (by omega)))
                           clear r_ k_
                           ))
                      replace TW := TWn
                      replace LG := LGn
                      replace XOK := XOKn
                      replace OR := ORn
                      replace BE := BEn
                      clear TWn LGn XOKn ORn BEn RB1 FR
                      go_meet
                      case rel => exact ⟨gl, D.sparks o.n, Ad, cd, Am, cm, rfl, TW.out, LG.out, BE.out⟩
                  · have t4 : ((m : Int) == 4) = false := by simp; omega
                    by_cases q5 : m = 5
                    · have t5 : ((m : Int) == 5) = true := by simp [q5]
                      as_aux_lemma =>
                        clear hb1 q4 hm3 q5
                        go_wp2_with fail
                        refine (crash_any TW.out.dk o.n XN.out.1 XN.out.2).mono ?_
                        rintro e wa ⟨rfl, dk1, ko⟩
                        have mv1 := Moves.of_only (A := Ad) ko
                        have fr1 : Ad = Ad ∨ ∀ p, Ad = some p → wo.heap.size ≤ p.block := .inl rfl
                        have krc := Lib.hid (fun W hW => rcrash_any D Am cm W o.n XN.out.1 XN.out.2 TW.out.dk.ok (show Rb W Am cm D.l from hW))
                        clear ko
                        replace XOK := Lib.hid (XOK.out.below (TW.out.moved mv1 hz4))
                        replace OR := Lib.hid (mv1.row OR.out (by omega) HAO.out)
                        replace BE := Lib.hid (BE.out.trans (TW.out.moved mv1 hz4))
                        replace LG := Lib.hid (LG.out.moves mv1 fr1)
                        replace TW := Lib.hid (TW.out.moves mv1 dk1 fr1)
                        clear dk1 mv1 fr1
                        obtain ⟨Dx, hx⟩ : ∃ x, D.crash o.n = x := ⟨_, rfl⟩
                        rw [hx] at TW krc
                        clear hx
                        have oelt : g0 < (wa).heap.size := OR.out.lt
                        have oelu : g0 < (wa).heap.size + 1 := Nat.lt_succ_of_lt OR.out.lt
                        have oe0 : (wa).cell? ⟨g0, 0, none⟩ = some (.int .u8 (o.what : Int)) := OR.out.cells 0
                        have oez0 : (wa).frozen? ⟨g0, 0, none⟩ = false := OR.out.frozen 0
                        have oe1 : (wa).cell? ⟨g0, 1, none⟩ = some (.int .u8 (o.x.p.what : Int)) := OR.out.cells 1
                        have oez1 : (wa).frozen? ⟨g0, 1, none⟩ = false := OR.out.frozen 1
                        have oe2 : (wa).cell? ⟨g0, 2, none⟩ = some (.int .u32 (o.x.p.tx : Int)) := OR.out.cells 2
                        have oez2 : (wa).frozen? ⟨g0, 2, none⟩ = false := OR.out.frozen 2
                        have oe3 : (wa).cell? ⟨g0, 3, none⟩ = some (.int .u8 (o.x.p.who : Int)) := OR.out.cells 3
                        have oez3 : (wa).frozen? ⟨g0, 3, none⟩ = false := OR.out.frozen 3
                        have oe4 : (wa).cell? ⟨g0, 4, none⟩ = some (.bool o.x.p.yes) := OR.out.cells 4
                        have oez4 : (wa).frozen? ⟨g0, 4, none⟩ = false := OR.out.frozen 4
                        have oe5 : (wa).cell? ⟨g0, 5, none⟩ = some (.slice o.x.A o.x.p.text.length o.x.c) := OR.out.cells 5
                        have oez5 : (wa).frozen? ⟨g0, 5, none⟩ = false := OR.out.frozen 5
                        have oe6 : (wa).cell? ⟨g0, 6, none⟩ = some (.int .i64 o.n) := OR.out.cells 6
                        have oez6 : (wa).frozen? ⟨g0, 6, none⟩ = false := OR.out.frozen 6
                        go_wp2_with (refine wpList_load_var rfl 67 (.tmp 16) rfl gm rfl (D.RC Am cm D.l.length) _ 5 TW.out.mr Try.underlying67 rfl size_nrd rfl ?_)
                        refine (krc.out wa TW.out.rb).mono ?_
                        clear krc
                        rintro e wb ⟨Amx, cmx, rfl, rb1, bb, fr1⟩
                        have FR := Lib.hid (TW.out.fresh (Am' := Amx) (.inr fr1))
                        have RB1 := Lib.hid rb1
                        clear rb1 fr1
                        replace XOK := Lib.hid (XOK.out.below (bb.mono BE.out.size))
                        replace TW := Lib.hid (TW.out.to bb)
                        replace LG := Lib.hid (LG.out.to bb)
                        replace OR := Lib.hid (OR.out.to bb)
                        replace BE := Lib.hid (BE.out.trans (bb.mono BE.out.size))
                        clear bb
                        go_wp2_with (first
                          | (refine wpList_store_var rfl 67 (.tmp 16) (.tmp 123) rfl gm (D.RC Am cm D.l.length) (Dx.RC Amx cmx Dx.l.length) 5 rfl rfl TW.out.mr size_nrd rfl rfl (RC_one Amx cmx _ Dx) ?_
                             intro wc r_ k_
                             have TWn := Lib.hid (TW.out.store k_ r_ RB1.out FR.out)
                             have LGn := Lib.hid (LG.out.only k_)
                             have XOKn := Lib.hid (XOK.out.below (k_.below (by omega : w.heap.size ≤ gm)))
                             have ORn := Lib.hid (OR.out.only k_ (by omega))
                             have BEn := Lib.hid (BE.out.trans (k_.below (by omega)))
                             clear r_ k_
                             ))
                        replace TW := TWn
                        replace LG := LGn
                        replace XOK := XOKn
                        replace OR := ORn
                        replace BE := BEn
                        clear TWn LGn XOKn ORn BEn RB1 FR
                        obtain ⟨D2, G2, E2, ho⟩ : ∃ D2 G2 E2, Dx.lopen = (D2, G2, E2) := ⟨_, _, _, rfl⟩
                        have hfit := Dk.lopen_fit TW.out.dk.ok
                        have hfew := Dk.lopen_few TW.out.dk.ok
                        have ko := open_any TW.out.dk
                        have kro := Lib.hid (fun W hW => ropen_any Dx Amx cmx W TW.out.dk.ok (show Rb W Amx cmx Dx.l from hW))
                        rw [ho] at ko kro hfit hfew
                        have HFIT := Lib.hid hfit
                        have gE : (E2 != E2) = false := by simp
                        have hlm := TW.out.mr.lt
                        have hld := TW.out.dk.lt
                        clear ho hfit
                        refine ko.mono ?_
                        clear ko
                        rintro e wj ⟨Ad2, cd2, pl, Ar, mr, cr, rs, dk1, mv1, fr1, rfl, ol, hrs, hnl, apg, apa, hz, hnz⟩
                        have HLG2 : Hid (Lgo wj E2 pl gd gm Ad2) := Lib.hid (fun h => by obtain ⟨gl2, h1, h2, h3, h4, _⟩ := hz h; exact ⟨gl2, h1, h2, by omega, by omega, h4⟩)
                        have HNZ := Lib.hid hnz
                        have APM := Lib.hid (Rcs.apart_low ol (fun x hx => (hnl x hx).2) hlm)
                        have OL := Lib.hid ol
                        have HRS : Hid (rs.map Rc.p = G2) := Lib.hid hrs
                        have HNL := Lib.hid (fun x hx => (hnl x hx).1)
                        have hmr : mr ≤ 100000 := by
                          have h1 : (rs.map Rc.p).length = G2.length := by rw [hrs]
                          rw [List.length_map, ol.len] at h1
                          dsimp only at hfew
                          omega
                        clear ol hrs hnl apg apa hz hnz hlm hld hfew
                        replace XOK := Lib.hid (XOK.out.below (TW.out.moved mv1 hz4))
                        replace OR := Lib.hid (mv1.row OR.out (by omega) HAO.out)
                        replace BE := Lib.hid (BE.out.trans (TW.out.moved mv1 hz4))
                        replace LG := Lib.hid (LG.out.moves mv1 fr1)
                        replace TW := Lib.hid (TW.out.moves mv1 dk1 fr1)
                        clear dk1 mv1 fr1
                        go_wp2_with (refine wpList_load_var rfl 67 (.tmp 16) rfl gm rfl (Dx.RC Amx cmx Dx.l.length) _ 5 TW.out.mr Try.underlying67 rfl size_nrd rfl ?_)
                        have hlj := TW.out.mr.lt
                        refine (kro.out wj TW.out.rb).mono ?_
                        clear kro
                        rintro e wk ⟨Am2, cm2, Ar2, m2, cr2, rs2, rfl, rb1, bb, fr1, ol2, hrs2, hnl2⟩
                        have FR := Lib.hid (TW.out.fresh fr1)
                        have RB1 := Lib.hid rb1
                        have APM2 := Lib.hid (Rcs.apart_low ol2 (fun x hx => (hnl2 x hx).2) hlj)
                        have OL2 := Lib.hid ol2
                        have HRS2 : Hid (rs2.map Rc.p = G2) := Lib.hid hrs2
                        have HNL2 := Lib.hid (fun x hx => (hnl2 x hx).1)
                        replace OL := Lib.hid (OL.out.to bb)
                        replace HLG2 := Lib.hid (HLG2.out.to bb)
                        clear rb1 fr1 ol2 hrs2 hnl2 hlj
                        replace XOK := Lib.hid (XOK.out.below (bb.mono BE.out.size))
                        replace TW := Lib.hid (TW.out.to bb)
                        replace LG := Lib.hid (LG.out.to bb)
                        replace OR := Lib.hid (OR.out.to bb)
                        replace BE := Lib.hid (BE.out.trans (bb.mono BE.out.size))
                        clear bb
                        have r29 : RowAt (wk.alloc (.cells (D2.RC Am2 cm2 D2.l.length).toArray 67)) wk.heap.size 67 (D2.RC Am2 cm2 D2.l.length) := RowAt.new' wk wk.heap.size 67 (D2.RC Am2 cm2 D2.l.length) rfl
                        obtain ⟨wl, hwl⟩ : ∃ wl, wk.alloc (.cells #[.int .i64 (D2.room : Int), .int .i64 (D2.safe : Int), .int .i64 (lf D2.left), .slice Am2 D2.l.length cm2, .bool D2.off] 67) = wl := ⟨_, rfl⟩
                        have bb : Below wk.heap.size wk wl := by rw [← hwl]; exact bel_alloc (Below.refl _ _) _
                        have R29 : Hid (RowAt wl wk.heap.size 67 (D2.RC Am2 cm2 D2.l.length)) := Lib.hid (by rw [← hwl]; exact r29)
                        have HWL := Lib.hid hwl
                        replace OL := Lib.hid (OL.out.to bb)
                        replace OL2 := Lib.hid (OL2.out.to bb)
                        replace RB1 := Lib.hid (RB1.out.to bb)
                        replace HLG2 := Lib.hid (HLG2.out.to bb)
                        clear hwl r29
                        replace XOK := Lib.hid (XOK.out.below (bb.mono BE.out.size))
                        replace TW := Lib.hid (TW.out.to bb)
                        replace LG := Lib.hid (LG.out.to bb)
                        replace OR := Lib.hid (OR.out.to bb)
                        replace BE := Lib.hid (BE.out.trans (bb.mono BE.out.size))
                        clear bb
                        go_upto_region 25 with fail
                        rw [HWL.out]
                        obtain ⟨g29, hg29⟩ : ∃ g29, wk.heap.size = g29 := ⟨_, rfl⟩
                        rw [hg29] at R29 ⊢
                        clear HWL hg29
                        go_wp2_with (first
                          | (refine wpList_load_var rfl 67 (.tmp 29) rfl g29 rfl (D2.RC Am2 cm2 D2.l.length) _ 5 R29.out Try.underlying67 rfl size_nrd rfl ?_)
                          | (refine wpList_store_var rfl 67 (.tmp 16) (.tmp 136) rfl gm (Dx.RC Amx cmx Dx.l.length) (D2.RC Am2 cm2 D2.l.length) 5 rfl rfl TW.out.mr size_nrd rfl rfl (RC_one Am2 cm2 _ D2) ?_
                             intro wm r_ k_
                             have OLn := Lib.hid (OL.out.moves (Moves.of_only (A := none) k_) APM.out (fun p hp => by cases hp))
                             have OL2n := Lib.hid (OL2.out.moves (Moves.of_only (A := none) k_) APM2.out (fun p hp => by cases hp))
                             have HLGn := Lib.hid (HLG2.out.only k_)
                             have TWn := Lib.hid (TW.out.store k_ r_ RB1.out FR.out)
                             have LGn := Lib.hid (LG.out.only k_)
                             have XOKn := Lib.hid (XOK.out.below (k_.below (by omega : w.heap.size ≤ gm)))
                             have ORn := Lib.hid (OR.out.only k_ (by omega))
                             have BEn := Lib.hid (BE.out.trans (k_.below (by omega)))
                             clear r_ k_
                             ))
                        replace TW := TWn
                        replace LG := LGn
                        replace XOK := XOKn
                        replace OR := ORn
                        replace BE := BEn
                        clear TWn LGn XOKn ORn BEn RB1 FR
                        have ka := all_any Ar Ar2 rs rs2 cr cr2 mr m2 wm OLn.out.len OL2n.out.len (OLn.out.rcs (fun x hx => ⟨(HFIT.out x.p (by rw [← HRS.out]; exact List.mem_map_of_mem hx)).2, HNL.out x hx⟩)) (OL2n.out.rcs (fun x hx => ⟨(HFIT.out x.p (by rw [← HRS2.out]; exact List.mem_map_of_mem hx)).2, HNL2.out x hx⟩)) hmr
                        rw [(Nr.eqs_iff _ _).2 (HRS.out.trans HRS2.out.symm)] at ka
                        refine ka.mono ?_
                        clear ka
                        rintro e wn ⟨rfl, bb⟩
                        replace HLG2 := Lib.hid (HLGn.out.to bb)
                        clear HLGn OLn OL2n OL OL2 HFIT
                        replace XOK := Lib.hid (XOK.out.below (bb.mono BE.out.size))
                        replace TW := Lib.hid (TW.out.to bb)
                        replace LG := Lib.hid (LG.out.to bb)
                        replace OR := Lib.hid (OR.out.to bb)
                        replace BE := Lib.hid (BE.out.trans (bb.mono BE.out.size))
                        clear bb
                        by_cases hE : E2 = 0
                        · obtain ⟨gl2, rfl, hlg2⟩ := HLG2.out hE
                          subst hE
                          have LG2 := Lib.hid hlg2
                          clear hlg2 HLG2 HNZ
                          go_wp2
                          go_meet
                          case rel => exact ⟨gl2, D2, Ad2, cd2, Am2, cm2, rfl, TW.out, LG2.out, BE.out⟩
                        · obtain rfl : pl = none := HNZ.out hE
                          have gE0 : (E2 == 0) = false := by simpa using hE
                          clear hE HLG2 HNZ
                          go_wp2
                          go_meet
                          case rel => exact ⟨gl, D2, Ad2, cd2, Am2, cm2, rfl, TW.out, LG.out, BE.out⟩
                    · have t5 : ((m : Int) == 5) = false := by simp; omega
                      as_aux_lemma =>
                        clear hb1 q4 hm3 q5
                        obtain ⟨Dx, hx⟩ : ∃ x, x = D := ⟨_, rfl⟩
                        rw [← hx] at TW
                        clear hx
                        obtain ⟨Amx, hx⟩ : ∃ x, x = Am := ⟨_, rfl⟩
                        rw [← hx] at TW
                        clear hx
                        obtain ⟨cmx, hx⟩ : ∃ x, x = cm := ⟨_, rfl⟩
                        rw [← hx] at TW
                        clear hx
                        go_wp2_with fail
                        obtain ⟨D2, G2, E2, ho⟩ : ∃ D2 G2 E2, Dx.lopen = (D2, G2, E2) := ⟨_, _, _, rfl⟩
                        have hfit := Dk.lopen_fit TW.out.dk.ok
                        have hfew := Dk.lopen_few TW.out.dk.ok
                        have ko := open_any TW.out.dk
                        have kro := Lib.hid (fun W hW => ropen_any Dx Amx cmx W TW.out.dk.ok (show Rb W Amx cmx Dx.l from hW))
                        rw [ho] at ko kro hfit hfew
                        have HFIT := Lib.hid hfit
                        have gE : (E2 != E2) = false := by simp
                        have hlm := TW.out.mr.lt
                        have hld := TW.out.dk.lt
                        clear ho hfit
                        refine ko.mono ?_
                        clear ko
                        rintro e wj ⟨Ad2, cd2, pl, Ar, mr, cr, rs, dk1, mv1, fr1, rfl, ol, hrs, hnl, apg, apa, hz, hnz⟩
                        have HLG2 : Hid (Lgo wj E2 pl gd gm Ad2) := Lib.hid (fun h => by obtain ⟨gl2, h1, h2, h3, h4, _⟩ := hz h; exact ⟨gl2, h1, h2, by omega, by omega, h4⟩)
                        have HNZ := Lib.hid hnz
                        have APM := Lib.hid (Rcs.apart_low ol (fun x hx => (hnl x hx).2) hlm)
                        have OL := Lib.hid ol
                        have HRS : Hid (rs.map Rc.p = G2) := Lib.hid hrs
                        have HNL := Lib.hid (fun x hx => (hnl x hx).1)
                        have hmr : mr ≤ 100000 := by
                          have h1 : (rs.map Rc.p).length = G2.length := by rw [hrs]
                          rw [List.length_map, ol.len] at h1
                          dsimp only at hfew
                          omega
                        clear ol hrs hnl apg apa hz hnz hlm hld hfew
                        replace XOK := Lib.hid (XOK.out.below (TW.out.moved mv1 hz4))
                        replace OR := Lib.hid (mv1.row OR.out (by omega) HAO.out)
                        replace BE := Lib.hid (BE.out.trans (TW.out.moved mv1 hz4))
                        replace LG := Lib.hid (LG.out.moves mv1 fr1)
                        replace TW := Lib.hid (TW.out.moves mv1 dk1 fr1)
                        clear dk1 mv1 fr1
                        go_wp2_with (refine wpList_load_var rfl 67 (.tmp 16) rfl gm rfl (Dx.RC Amx cmx Dx.l.length) _ 5 TW.out.mr Try.underlying67 rfl size_nrd rfl ?_)
                        have hlj := TW.out.mr.lt
                        refine (kro.out wj TW.out.rb).mono ?_
                        clear kro
                        rintro e wk ⟨Am2, cm2, Ar2, m2, cr2, rs2, rfl, rb1, bb, fr1, ol2, hrs2, hnl2⟩
                        have FR := Lib.hid (TW.out.fresh fr1)
                        have RB1 := Lib.hid rb1
                        have APM2 := Lib.hid (Rcs.apart_low ol2 (fun x hx => (hnl2 x hx).2) hlj)
                        have OL2 := Lib.hid ol2
                        have HRS2 : Hid (rs2.map Rc.p = G2) := Lib.hid hrs2
                        have HNL2 := Lib.hid (fun x hx => (hnl2 x hx).1)
                        replace OL := Lib.hid (OL.out.to bb)
                        replace HLG2 := Lib.hid (HLG2.out.to bb)
                        clear rb1 fr1 ol2 hrs2 hnl2 hlj
                        replace XOK := Lib.hid (XOK.out.below (bb.mono BE.out.size))
                        replace TW := Lib.hid (TW.out.to bb)
                        replace LG := Lib.hid (LG.out.to bb)
                        replace OR := Lib.hid (OR.out.to bb)
                        replace BE := Lib.hid (BE.out.trans (bb.mono BE.out.size))
                        clear bb
                        have r29 : RowAt (wk.alloc (.cells (D2.RC Am2 cm2 D2.l.length).toArray 67)) wk.heap.size 67 (D2.RC Am2 cm2 D2.l.length) := RowAt.new' wk wk.heap.size 67 (D2.RC Am2 cm2 D2.l.length) rfl
                        obtain ⟨wl, hwl⟩ : ∃ wl, wk.alloc (.cells #[.int .i64 (D2.room : Int), .int .i64 (D2.safe : Int), .int .i64 (lf D2.left), .slice Am2 D2.l.length cm2, .bool D2.off] 67) = wl := ⟨_, rfl⟩
                        have bb : Below wk.heap.size wk wl := by rw [← hwl]; exact bel_alloc (Below.refl _ _) _
                        have R29 : Hid (RowAt wl wk.heap.size 67 (D2.RC Am2 cm2 D2.l.length)) := Lib.hid (by rw [← hwl]; exact r29)
                        have HWL := Lib.hid hwl
                        replace OL := Lib.hid (OL.out.to bb)
                        replace OL2 := Lib.hid (OL2.out.to bb)
                        replace RB1 := Lib.hid (RB1.out.to bb)
                        replace HLG2 := Lib.hid (HLG2.out.to bb)
                        clear hwl r29
                        replace XOK := Lib.hid (XOK.out.below (bb.mono BE.out.size))
                        replace TW := Lib.hid (TW.out.to bb)
                        replace LG := Lib.hid (LG.out.to bb)
                        replace OR := Lib.hid (OR.out.to bb)
                        replace BE := Lib.hid (BE.out.trans (bb.mono BE.out.size))
                        clear bb
                        go_upto_region 25 with fail
                        rw [HWL.out]
                        obtain ⟨g29, hg29⟩ : ∃ g29, wk.heap.size = g29 := ⟨_, rfl⟩
                        rw [hg29] at R29 ⊢
                        clear HWL hg29
                        go_wp2_with (first
                          | (refine wpList_load_var rfl 67 (.tmp 29) rfl g29 rfl (D2.RC Am2 cm2 D2.l.length) _ 5 R29.out Try.underlying67 rfl size_nrd rfl ?_)
                          | (refine wpList_store_var rfl 67 (.tmp 16) (.tmp 136) rfl gm (Dx.RC Amx cmx Dx.l.length) (D2.RC Am2 cm2 D2.l.length) 5 rfl rfl TW.out.mr size_nrd rfl rfl (RC_one Am2 cm2 _ D2) ?_
                             intro wm r_ k_
                             have OLn := Lib.hid (OL.out.moves (Moves.of_only (A := none) k_) APM.out (fun p hp => by cases hp))
                             have OL2n := Lib.hid (OL2.out.moves (Moves.of_only (A := none) k_) APM2.out (fun p hp => by cases hp))
                             have HLGn := Lib.hid (HLG2.out.only k_)
                             have TWn := Lib.hid (TW.out.store k_ r_ RB1.out FR.out)
                             have LGn := Lib.hid (LG.out.only k_)
                             have XOKn := Lib.hid (XOK.out.below (k_.below (by omega : w.heap.size ≤ gm)))
                             have ORn := Lib.hid (OR.out.only k_ (by omega))
                             have BEn := Lib.hid (BE.out.trans (k_.below (by omega)))
                             clear r_ k_
                             ))
                        replace TW := TWn
                        replace LG := LGn
                        replace XOK := XOKn
                        replace OR := ORn
                        replace BE := BEn
                        clear TWn LGn XOKn ORn BEn RB1 FR
                        have ka := all_any Ar Ar2 rs rs2 cr cr2 mr m2 wm OLn.out.len OL2n.out.len (OLn.out.rcs (fun x hx => ⟨(HFIT.out x.p (by rw [← HRS.out]; exact List.mem_map_of_mem hx)).2, HNL.out x hx⟩)) (OL2n.out.rcs (fun x hx => ⟨(HFIT.out x.p (by rw [← HRS2.out]; exact List.mem_map_of_mem hx)).2, HNL2.out x hx⟩)) hmr
                        rw [(Nr.eqs_iff _ _).2 (HRS.out.trans HRS2.out.symm)] at ka
                        refine ka.mono ?_
                        clear ka
                        rintro e wn ⟨rfl, bb⟩
                        replace HLG2 := Lib.hid (HLGn.out.to bb)
                        clear HLGn OLn OL2n OL OL2 HFIT
                        replace XOK := Lib.hid (XOK.out.below (bb.mono BE.out.size))
                        replace TW := Lib.hid (TW.out.to bb)
                        replace LG := Lib.hid (LG.out.to bb)
                        replace OR := Lib.hid (OR.out.to bb)
                        replace BE := Lib.hid (BE.out.trans (bb.mono BE.out.size))
                        clear bb
                        by_cases hE : E2 = 0
                        · obtain ⟨gl2, rfl, hlg2⟩ := HLG2.out hE
                          subst hE
                          have LG2 := Lib.hid hlg2
                          clear hlg2 HLG2 HNZ
                          go_wp2
                          go_meet
                          case rel => exact ⟨gl2, D2, Ad2, cd2, Am2, cm2, rfl, TW.out, LG2.out, BE.out⟩
                        · obtain rfl : pl = none := HNZ.out hE
                          have gE0 : (E2 == 0) = false := by simpa using hE
                          clear hE HLG2 HNZ
                          go_wp2
                          go_meet
                          case rel => exact ⟨gl, D2, Ad2, cd2, Am2, cm2, rfl, TW.out, LG.out, BE.out⟩
                · clear hb1
                  obtain ⟨rt, hrt⟩ : ∃ rt, o.x.p.right = rt := ⟨_, rfl⟩
                  cases rt
                  · as_aux_lemma =>
                      have HD : Hid (D.lappend o.x.p = (D, 50)) := Lib.hid (by unfold Dk.lappend; rw [if_neg (by rw [hrt]; decide)])
                      have krr := rright_any o.x.p o.x.A o.x.c o.x.p.text.length rfl
                      have knr := nright_any o.x.p o.x.A o.x.c o.x.p.text.length rfl
                      rw [hrt] at krr knr
                      have KRR := Lib.hid krr
                      have KNR := Lib.hid knr
                      clear krr knr
                      go_wp2_with (refine wpList_load_mid rfl 34 (.tmp 160) rfl g0 1 rfl (rcV o.x.p.what o.x.p.tx o.x.p.who o.x.p.yes o.x.A o.x.p.text.length o.x.c) _ (OR.out.range 1 5) Try.underlying34 rfl size_rec ?_)
                      refine (KRR.out _).mono ?_
                      rintro e wa ⟨rfl, bb⟩
                      replace XOK := Lib.hid (XOK.out.below (bb.mono BE.out.size))
                      replace TW := Lib.hid (TW.out.to bb)
                      replace LG := Lib.hid (LG.out.to bb)
                      replace OR := Lib.hid (OR.out.to bb)
                      replace BE := Lib.hid (BE.out.trans (bb.mono BE.out.size))
                      clear bb
                      have kb := nbytes_any o.x.p o.x.A o.x.c o.x.p.text.length rfl XOK.out.fit wa (XOK.out.sq.more BE.out.size) XOK.out.nl.1
                      go_wp2_with (refine wpList_load_mid rfl 34 (.tmp 164) rfl g0 1 rfl (rcV o.x.p.what o.x.p.tx o.x.p.who o.x.p.yes o.x.A o.x.p.text.length o.x.c) _ (OR.out.range 1 5) Try.underlying34 rfl size_rec ?_)
                      refine kb.mono ?_
                      clear kb
                      rintro e wb ⟨bb, hif⟩
                      have bb' := Lib.hid bb
                      replace XOK := Lib.hid (XOK.out.below (bb.mono BE.out.size))
                      replace TW := Lib.hid (TW.out.to bb)
                      replace LG := Lib.hid (LG.out.to bb)
                      replace OR := Lib.hid (OR.out.to bb)
                      replace BE := Lib.hid (BE.out.trans (bb.mono BE.out.size))
                      clear bb
                      rw [if_neg (by rw [hrt]; decide)] at hif
                      subst hif
                      clear hrt
                      go_wp2_with (refine wpList_load_mid rfl 34 (.tmp 169) rfl g0 1 rfl (rcV o.x.p.what o.x.p.tx o.x.p.who o.x.p.yes o.x.A o.x.p.text.length o.x.c) _ (OR.out.range 1 5) Try.underlying34 rfl size_rec ?_)
                      refine (KNR.out _).mono ?_
                      rintro e wc ⟨rfl, bb⟩
                      replace XOK := Lib.hid (XOK.out.below (bb.mono BE.out.size))
                      replace TW := Lib.hid (TW.out.to bb)
                      replace LG := Lib.hid (LG.out.to bb)
                      replace OR := Lib.hid (OR.out.to bb)
                      replace BE := Lib.hid (BE.out.trans (bb.mono BE.out.size))
                      clear bb
                      go_wp2_with (refine wpList_load_mid rfl 34 (.tmp 213) rfl g0 1 rfl (rcV o.x.p.what o.x.p.tx o.x.p.who o.x.p.yes o.x.A o.x.p.text.length o.x.c) _ (OR.out.range 1 5) Try.underlying34 rfl size_rec ?_)
                      have kap := lappend_any TW.out.dk LG.out.at_ LG.out.nd LG.out.agl o.x.p o.x.A o.x.c o.x.p.text.length rfl XOK.out.fit (XOK.out.sq.more BE.out.size) XOK.out.nl.1
                      rw [HD.out] at kap
                      refine kap.mono ?_
                      clear kap
                      rintro e wg ⟨rfl, Ad1, cd1, dk1, mv1, fr1⟩
                      replace XOK := Lib.hid (XOK.out.below (TW.out.moved mv1 hz4))
                      replace OR := Lib.hid (mv1.row OR.out (by omega) HAO.out)
                      replace BE := Lib.hid (BE.out.trans (TW.out.moved mv1 hz4))
                      replace LG := Lib.hid (LG.out.moves mv1 fr1)
                      replace TW := Lib.hid (TW.out.moves mv1 dk1 fr1)
                      clear dk1 mv1 fr1
                      go_wp2
                      go_meet
                      case rel => exact ⟨gl, D, Ad1, cd1, Am, cm, rfl, TW.out, LG.out, BE.out⟩
                  · as_aux_lemma =>
                      obtain ⟨D1, E1, hd⟩ : ∃ D1 E1, D.lappend o.x.p = (D1, E1) := ⟨_, _, rfl⟩
                      have HD := Lib.hid hd
                      have HRT := Lib.hid hrt
                      have gE : (E1 != E1) = false := by simp
                      have krr := rright_any o.x.p o.x.A o.x.c o.x.p.text.length rfl
                      have knr := nright_any o.x.p o.x.A o.x.c o.x.p.text.length rfl
                      rw [hrt] at krr knr
                      have KRR := Lib.hid krr
                      have KNR := Lib.hid knr
                      clear krr knr
                      go_wp2_with (refine wpList_load_mid rfl 34 (.tmp 160) rfl g0 1 rfl (rcV o.x.p.what o.x.p.tx o.x.p.who o.x.p.yes o.x.A o.x.p.text.length o.x.c) _ (OR.out.range 1 5) Try.underlying34 rfl size_rec ?_)
                      refine (KRR.out _).mono ?_
                      rintro e wa ⟨rfl, bb⟩
                      replace XOK := Lib.hid (XOK.out.below (bb.mono BE.out.size))
                      replace TW := Lib.hid (TW.out.to bb)
                      replace LG := Lib.hid (LG.out.to bb)
                      replace OR := Lib.hid (OR.out.to bb)
                      replace BE := Lib.hid (BE.out.trans (bb.mono BE.out.size))
                      clear bb
                      have kb := nbytes_any o.x.p o.x.A o.x.c o.x.p.text.length rfl XOK.out.fit wa (XOK.out.sq.more BE.out.size) XOK.out.nl.1
                      go_wp2_with (refine wpList_load_mid rfl 34 (.tmp 164) rfl g0 1 rfl (rcV o.x.p.what o.x.p.tx o.x.p.who o.x.p.yes o.x.A o.x.p.text.length o.x.c) _ (OR.out.range 1 5) Try.underlying34 rfl size_rec ?_)
                      refine kb.mono ?_
                      clear kb
                      rintro e wb ⟨bb, hif⟩
                      have bb' := Lib.hid bb
                      replace XOK := Lib.hid (XOK.out.below (bb.mono BE.out.size))
                      replace TW := Lib.hid (TW.out.to bb)
                      replace LG := Lib.hid (LG.out.to bb)
                      replace OR := Lib.hid (OR.out.to bb)
                      replace BE := Lib.hid (BE.out.trans (bb.mono BE.out.size))
                      clear bb
                      rw [if_pos hrt] at hif
                      obtain ⟨An, cn, rfl, on⟩ := hif
                      have ON := Lib.hid (Sq.of_own on)
                      obtain ⟨nb, hnb⟩ : ∃ nb, o.x.p.bytes.length = nb := ⟨_, rfl⟩
                      rw [hnb]
                      have HNB := Lib.hid hnb
                      have HBU := Lib.hid (Nr.bytes_u XOK.out.fit)
                      clear hrt hd on hnb
                      go_wp2_with (refine wpList_load_mid rfl 34 (.tmp 169) rfl g0 1 rfl (rcV o.x.p.what o.x.p.tx o.x.p.who o.x.p.yes o.x.A o.x.p.text.length o.x.c) _ (OR.out.range 1 5) Try.underlying34 rfl size_rec ?_)
                      refine (KNR.out _).mono ?_
                      rintro e wc ⟨rfl, bb⟩
                      replace ON := Lib.hid ((ON.out.below bb).more bb.size)
                      replace XOK := Lib.hid (XOK.out.below (bb.mono BE.out.size))
                      replace TW := Lib.hid (TW.out.to bb)
                      replace LG := Lib.hid (LG.out.to bb)
                      replace OR := Lib.hid (OR.out.to bb)
                      replace BE := Lib.hid (BE.out.trans (bb.mono BE.out.size))
                      clear bb
                      have krb := rbytes_any o.x.p o.x.A o.x.c o.x.p.text.length rfl XOK.out.fit (by have := HOB.out; omega) wc (XOK.out.sq.more BE.out.size) XOK.out.nl.1
                      rw [HNB.out] at krb
                      have oclt : g0 < (wc).heap.size := OR.out.lt
                      have oclu : g0 < (wc).heap.size + 1 := Nat.lt_succ_of_lt OR.out.lt
                      have oc0 : (wc).cell? ⟨g0, 0, none⟩ = some (.int .u8 (o.what : Int)) := OR.out.cells 0
                      have ocz0 : (wc).frozen? ⟨g0, 0, none⟩ = false := OR.out.frozen 0
                      have oc1 : (wc).cell? ⟨g0, 1, none⟩ = some (.int .u8 (o.x.p.what : Int)) := OR.out.cells 1
                      have ocz1 : (wc).frozen? ⟨g0, 1, none⟩ = false := OR.out.frozen 1
                      have oc2 : (wc).cell? ⟨g0, 2, none⟩ = some (.int .u32 (o.x.p.tx : Int)) := OR.out.cells 2
                      have ocz2 : (wc).frozen? ⟨g0, 2, none⟩ = false := OR.out.frozen 2
                      have oc3 : (wc).cell? ⟨g0, 3, none⟩ = some (.int .u8 (o.x.p.who : Int)) := OR.out.cells 3
                      have ocz3 : (wc).frozen? ⟨g0, 3, none⟩ = false := OR.out.frozen 3
                      have oc4 : (wc).cell? ⟨g0, 4, none⟩ = some (.bool o.x.p.yes) := OR.out.cells 4
                      have ocz4 : (wc).frozen? ⟨g0, 4, none⟩ = false := OR.out.frozen 4
                      have oc5 : (wc).cell? ⟨g0, 5, none⟩ = some (.slice o.x.A o.x.p.text.length o.x.c) := OR.out.cells 5
                      have ocz5 : (wc).frozen? ⟨g0, 5, none⟩ = false := OR.out.frozen 5
                      have oc6 : (wc).cell? ⟨g0, 6, none⟩ = some (.int .i64 o.n) := OR.out.cells 6
                      have ocz6 : (wc).frozen? ⟨g0, 6, none⟩ = false := OR.out.frozen 6
                      go_wp2_with fail
                      refine krb.mono ?_
                      clear krb
                      rintro e wd ⟨Am9, cm9, rfl, o9, bb⟩
                      have O9 := Lib.hid (Sq.of_own o9)
                      replace ON := Lib.hid ((ON.out.below bb).more bb.size)
                      clear o9
                      replace XOK := Lib.hid (XOK.out.below (bb.mono BE.out.size))
                      replace TW := Lib.hid (TW.out.to bb)
                      replace LG := Lib.hid (LG.out.to bb)
                      replace OR := Lib.hid (OR.out.to bb)
                      replace BE := Lib.hid (BE.out.trans (bb.mono BE.out.size))
                      clear bb
                      go_wp2_with fail
                      refine ((same_by An Am9 o.x.p.bytes o.x.p.bytes cn cm9 nb nb true _ HNB.out HNB.out ON.out O9.out HBU.out HBU.out (by simp))).mono ?_
                      rintro e_ w_ ⟨rfl, rfl⟩
                      clear ON O9 HBU HNB
                      go_wp2_with (first | (refine wpList_load_var rfl 67 (.tmp 16) rfl gm rfl (D.RC Am cm D.l.length) _ 5 TW.out.mr Try.underlying67 rfl size_nrd rfl ?_) | (refine wpList_load_mid rfl 34 (.tmp 207) rfl g0 1 rfl (rcV o.x.p.what o.x.p.tx o.x.p.who o.x.p.yes o.x.A o.x.p.text.length o.x.c) _ (OR.out.range 1 5) Try.underlying34 rfl size_rec ?_))
                      have kla := rlappend_any D Am cm wd TW.out.dk.ok TW.out.rb o.x.p HRT.out XOK.out.fit o.x.A o.x.c o.x.p.text.length rfl (XOK.out.sq.more BE.out.size) XOK.out.nl.1
                      rw [HD.out] at kla
                      refine kla.mono ?_
                      clear kla
                      rintro e we ⟨Am1, cm1, rfl, rb1, bb, fr1⟩
                      have FR := Lib.hid (TW.out.fresh fr1)
                      have RB1 := Lib.hid rb1
                      clear rb1 fr1
                      replace XOK := Lib.hid (XOK.out.below (bb.mono BE.out.size))
                      replace TW := Lib.hid (TW.out.to bb)
                      replace LG := Lib.hid (LG.out.to bb)
                      replace OR := Lib.hid (OR.out.to bb)
                      replace BE := Lib.hid (BE.out.trans (bb.mono BE.out.size))
                      clear bb
                      go_wp2_with (first
                        | (refine wpList_load_mid rfl 34 (.tmp 213) rfl g0 1 rfl (rcV o.x.p.what o.x.p.tx o.x.p.who o.x.p.yes o.x.A o.x.p.text.length o.x.c) _ (ORn.out.range 1 5) Try.underlying34 rfl size_rec ?_)
                        | (refine wpList_store_var rfl 67 (.tmp 16) (.tmp 210) rfl gm (D.RC Am cm D.l.length) (D1.RC Am1 cm1 D1.l.length) 5 rfl rfl TW.out.mr size_nrd rfl rfl (RC_one Am1 cm1 _ D1) ?_
                           intro wf r_ k_
                           have TWn := Lib.hid (TW.out.store k_ r_ RB1.out FR.out)
                           have LGn := Lib.hid (LG.out.only k_)
                           have XOKn := Lib.hid (XOK.out.below (k_.below (by omega : w.heap.size ≤ gm)))
                           have ORn := Lib.hid (OR.out.only k_ (by omega))
                           have BEn := Lib.hid (BE.out.trans (k_.below (by omega)))
                           clear r_ k_
                           ))
                      replace TW := TWn
                      replace LG := LGn
                      replace XOK := XOKn
                      replace OR := ORn
                      replace BE := BEn
                      clear TWn LGn XOKn ORn BEn RB1 FR
                      have kap := lappend_any TW.out.dk LG.out.at_ LG.out.nd LG.out.agl o.x.p o.x.A o.x.c o.x.p.text.length rfl XOK.out.fit (XOK.out.sq.more BE.out.size) XOK.out.nl.1
                      rw [HD.out] at kap
                      refine kap.mono ?_
                      clear kap
                      rintro e wg ⟨rfl, Ad1, cd1, dk1, mv1, fr1⟩
                      replace XOK := Lib.hid (XOK.out.below (TW.out.moved mv1 hz4))
                      replace OR := Lib.hid (mv1.row OR.out (by omega) HAO.out)
                      replace BE := Lib.hid (BE.out.trans (TW.out.moved mv1 hz4))
                      replace LG := Lib.hid (LG.out.moves mv1 fr1)
                      replace TW := Lib.hid (TW.out.moves mv1 dk1 fr1)
                      clear dk1 mv1 fr1
                      go_wp2
                      go_meet
                      case rel => exact ⟨gl, D1, Ad1, cd1, Am1, cm1, rfl, TW.out, LG.out, BE.out⟩
            case rest => as_aux_lemma =>
              obtain ⟨gl1, D1, Ad1, cd1, Am1, cm1, rfl, htw, hlg, hbe⟩ := hcut
              have TW1 := Lib.hid htw
              have LG1 := Lib.hid hlg
              have BE1 := Lib.hid hbe
              have hgm1 : gm < wc.heap.size := htw.mr.lt
              have hlen : D1.l.length ≤ D1.room := htw.dk.ok.room
              have hroom : D1.room ≤ 262144 := htw.dk.ok.hi
              clear htw hlg hbe TW LG BE XOK OR HAO HAM
              have gF : ((D1.room : Int) - (D1.l.length : Int) != IntKind.i64.wrap ((D1.room : Int) - (D1.l.length : Int))) = false := by rw [IntKind.wrap_i64, bne_eq_false_iff_eq]; omega
              have gO : (D1.off != D1.off) = false := by simp
              have gS : ((D1.safe : Int) != (D1.safe : Int)) = false := by simp
              go_wp2_with fail
              refine wp_region_held_drew (S := (fun w' => w'.cell? ⟨gm, 0, none⟩ = some (.int .i64 (D1.room : Int)) ∧ w'.cell? ⟨gm, 1, none⟩ = some (.int .i64 (D1.safe : Int)) ∧ w'.cell? ⟨gm, 3, none⟩ = some (.slice Am1 D1.l.length cm1) ∧ w'.cell? ⟨gm, 4, none⟩ = some (.bool D1.off))) (by kernel_rfl) ?_ (fun hHeld => ?_)
              · exact ⟨TW1.out.mr.cells 0, TW1.out.mr.cells 1, TW1.out.mr.cells 3, TW1.out.mr.cells 4⟩
              refine takeD (i := 0) (oi := _) (v := ?vv76) (d := some 228) rfl (by kernel_rfl) (by kernel_rfl) (by kernel_rfl) (by kernel_rfl) (fun _ _ _ h => h) (Or.inl ⟨by kernel_rfl, ?_⟩) (by assumption) ?_
              rotate_left 1
              · intro W_ hSw; (try dsimp only at hSw); go_simp; (first | done | with_reducible rfl)
              try simp only [Act.put, List.setIfInBounds_toArray, List.set_cons_zero, List.set_cons_succ]
              refine takeD (i := 2) (oi := _) (v := ?vv77) (d := some 230) rfl (by kernel_rfl) (by kernel_rfl) (by kernel_rfl) (by kernel_rfl) (fun _ _ _ h => h) (Or.inl ⟨by kernel_rfl, ?_⟩) (by assumption) ?_
              rotate_left 1
              · intro W_ hSw; (try dsimp only at hSw); go_simp; (first | done | with_reducible rfl)
              try simp only [Act.put, List.setIfInBounds_toArray, List.set_cons_zero, List.set_cons_succ]
              refine takeD (i := 3) (oi := _) (v := ?vv78) (d := some 231) rfl (by kernel_rfl) (by kernel_rfl) (by kernel_rfl) (by kernel_rfl) (fun _ _ _ h => h) (Or.inl ⟨by kernel_rfl, ?_⟩) (by assumption) ?_
              rotate_left 1
              · intro W_ hSw; (try dsimp only at hSw); go_simp; (first | done | with_reducible rfl)
              try simp only [Act.put, List.setIfInBounds_toArray, List.set_cons_zero, List.set_cons_succ]
              refine wpAnyH_ready (rs := [1]) (by kernel_rfl) (by simp) ?_
              refine AllReadyH.cons (o := _) rfl (fun K hK => ?_) AllReadyH.nil
              go_simp
              (go_at_call 23; (with_reducible refine (bytes_any (TW1.out.dk.to (Below.refl _ _).drew)).mono ?_); rintro e v1 ⟨Ab, cb, rfl, ob, bb⟩; have BB : Hid (Below wc.heap.size wc v1) := Lib.hid ((Below.refl wc.heap.size wc).drew.trans bb); have TWV := Lib.hid (TW1.out.to BB.out); have LGV := Lib.hid (LG1.out.to BB.out); have BEV := Lib.hid (BE1.out.trans (BB.out.mono BE1.out.size)); have OB := Lib.hid ob; clear ob bb)
              go_wp2_with fail
              refine hK.out _ _ ?_ (fun hHeld => ?_)
              · exact ⟨TWV.out.mr.cells 0, TWV.out.mr.cells 1, TWV.out.mr.cells 3, TWV.out.mr.cells 4⟩
              clear hK K
              try simp only [Act.put, List.setIfInBounds_toArray, List.set_cons_zero, List.set_cons_succ]
              refine wpAnyH_ready (rs := [4]) (by kernel_rfl) (by simp) ?_
              refine AllReadyH.cons (o := _) rfl (fun K hK => ?_) AllReadyH.nil
              go_simp
              (go_at_call 14; (with_reducible refine (same_by Ab Am1 D1.l D1.l cb cm1 D1.l.length D1.l.length true v1 rfl rfl (Sq.of_own OB.out) TWV.out.rb.sq TWV.out.dk.ok.u TWV.out.dk.ok.u (by simp)).mono ?_); rintro e v3 ⟨rfl, rfl⟩)
              go_wp2_with fail
              refine hK.out _ _ ?_ (fun hHeld => ?_)
              · exact ⟨TWV.out.mr.cells 0, TWV.out.mr.cells 1, TWV.out.mr.cells 3, TWV.out.mr.cells 4⟩
              clear hK K
              try simp only [Act.put, List.setIfInBounds_toArray, List.set_cons_zero, List.set_cons_succ]
              refine takeD (i := 5) (oi := _) (v := ?vv79) (d := some 233) rfl (by kernel_rfl) (by kernel_rfl) (by kernel_rfl) (by kernel_rfl) (fun _ _ _ h => h) (Or.inl ⟨by kernel_rfl, ?_⟩) (by assumption) ?_
              rotate_left 1
              · intro W_ hSw; (try dsimp only at hSw); go_simp; (first | done | with_reducible rfl)
              try simp only [Act.put, List.setIfInBounds_toArray, List.set_cons_zero, List.set_cons_succ]
              refine takeD (i := 6) (oi := _) (v := ?vv80) (d := some 234) rfl (by kernel_rfl) (by kernel_rfl) (by kernel_rfl) (by kernel_rfl) (fun _ _ _ h => h) (Or.inl ⟨by kernel_rfl, ?_⟩) (by assumption) ?_
              rotate_left 1
              · intro W_ hSw; (try dsimp only at hSw); go_simp; (first | done | with_reducible rfl)
              try simp only [Act.put, List.setIfInBounds_toArray, List.set_cons_zero, List.set_cons_succ]
              refine takeD (i := 7) (oi := _) (v := ?vv81) (d := some 235) rfl (by kernel_rfl) (by kernel_rfl) (by kernel_rfl) (by kernel_rfl) (fun _ _ _ h => h) (Or.inl ⟨by kernel_rfl, ?_⟩) (by assumption) ?_
              rotate_left 1
              · intro W_ hSw; (try dsimp only at hSw); go_simp; (first | done | with_reducible rfl)
              try simp only [Act.put, List.setIfInBounds_toArray, List.set_cons_zero, List.set_cons_succ]
              refine takeD (i := 9) (oi := _) (v := ?vv82) (d := some 237) rfl (by kernel_rfl) (by kernel_rfl) (by kernel_rfl) (by kernel_rfl) (fun _ _ _ h => h) (Or.inl ⟨by kernel_rfl, ?_⟩) (by assumption) ?_
              rotate_left 1
              · intro W_ hSw; (try dsimp only at hSw); go_simp; (first | done | with_reducible rfl)
              try simp only [Act.put, List.setIfInBounds_toArray, List.set_cons_zero, List.set_cons_succ]
              refine takeD (i := 10) (oi := _) (v := ?vv83) (d := some 238) rfl (by kernel_rfl) (by kernel_rfl) (by kernel_rfl) (by kernel_rfl) (fun _ _ _ h => h) (Or.inl ⟨by kernel_rfl, ?_⟩) (by assumption) ?_
              rotate_left 1
              · intro W_ hSw; (try dsimp only at hSw); go_simp; (first | done | with_reducible rfl)
              try simp only [Act.put, List.setIfInBounds_toArray, List.set_cons_zero, List.set_cons_succ]
              refine wpAnyH_ready (rs := [8]) (by kernel_rfl) (by simp) ?_
              refine AllReadyH.cons (o := _) rfl (fun K hK => ?_) AllReadyH.nil
              go_simp
              (go_at_call 25; (with_reducible refine (safe_any TWV.out.dk).mono ?_); rintro e v3 ⟨rfl, rfl⟩)
              go_wp2_with fail
              refine hK.out _ _ ?_ (fun hHeld => ?_)
              · exact ⟨TWV.out.mr.cells 0, TWV.out.mr.cells 1, TWV.out.mr.cells 3, TWV.out.mr.cells 4⟩
              clear hK K
              try simp only [Act.put, List.setIfInBounds_toArray, List.set_cons_zero, List.set_cons_succ]
              refine takeD (i := 11) (oi := _) (v := ?vv84) (d := some 239) rfl (by kernel_rfl) (by kernel_rfl) (by kernel_rfl) (by kernel_rfl) (fun _ _ _ h => h) (Or.inl ⟨by kernel_rfl, ?_⟩) (by assumption) ?_
              rotate_left 1
              · intro W_ hSw; (try dsimp only at hSw); go_simp; (first | done | with_reducible rfl)
              try simp only [Act.put, List.setIfInBounds_toArray, List.set_cons_zero, List.set_cons_succ]
              refine takeD (i := 12) (oi := _) (v := ?vv85) (d := some 240) rfl (by kernel_rfl) (by kernel_rfl) (by kernel_rfl) (by kernel_rfl) (fun _ _ _ h => h) (Or.inl ⟨by kernel_rfl, ?_⟩) (by assumption) ?_
              rotate_left 1
              · intro W_ hSw; (try dsimp only at hSw); go_simp; (first | done | with_reducible rfl)
              try simp only [Act.put, List.setIfInBounds_toArray, List.set_cons_zero, List.set_cons_succ]
              refine takeD (i := 13) (oi := _) (v := ?vv86) (d := some 241) rfl (by kernel_rfl) (by kernel_rfl) (by kernel_rfl) (by kernel_rfl) (fun _ _ _ h => h) (Or.inl ⟨by kernel_rfl, ?_⟩) (by assumption) ?_
              rotate_left 1
              · intro W_ hSw; (try dsimp only at hSw); go_simp; (first | done | with_reducible rfl)
              try simp only [Act.put, List.setIfInBounds_toArray, List.set_cons_zero, List.set_cons_succ]
              refine takeD (i := 14) (oi := _) (v := ?vv87) (d := some 242) rfl (by kernel_rfl) (by kernel_rfl) (by kernel_rfl) (by kernel_rfl) (fun _ _ _ h => h) (Or.inl ⟨by kernel_rfl, ?_⟩) (by assumption) ?_
              rotate_left 1
              · intro W_ hSw; (try dsimp only at hSw); go_simp; (first | done | with_reducible rfl)
              try simp only [Act.put, List.setIfInBounds_toArray, List.set_cons_zero, List.set_cons_succ]
              refine takeD (i := 16) (oi := _) (v := ?vv88) (d := some 244) rfl (by kernel_rfl) (by kernel_rfl) (by kernel_rfl) (by kernel_rfl) (fun _ _ _ h => h) (Or.inl ⟨by kernel_rfl, ?_⟩) (by assumption) ?_
              rotate_left 1
              · intro W_ hSw; (try dsimp only at hSw); go_simp; (first | done | with_reducible rfl)
              try simp only [Act.put, List.setIfInBounds_toArray, List.set_cons_zero, List.set_cons_succ]
              refine takeD (i := 17) (oi := _) (v := ?vv89) (d := some 245) rfl (by kernel_rfl) (by kernel_rfl) (by kernel_rfl) (by kernel_rfl) (fun _ _ _ h => h) (Or.inl ⟨by kernel_rfl, ?_⟩) (by assumption) ?_
              rotate_left 1
              · intro W_ hSw; (try dsimp only at hSw); go_simp; (first | done | with_reducible rfl)
              try simp only [Act.put, List.setIfInBounds_toArray, List.set_cons_zero, List.set_cons_succ]
              refine wpAnyH_ready (rs := [15]) (by kernel_rfl) (by simp) ?_
              refine AllReadyH.cons (o := _) rfl (fun K hK => ?_) AllReadyH.nil
              go_simp
              (go_at_call 21; (with_reducible refine (off_any TWV.out.dk).mono ?_); rintro e v3 ⟨rfl, rfl⟩)
              go_wp2_with fail
              refine hK.out _ _ ?_ (fun hHeld => ?_)
              · exact ⟨TWV.out.mr.cells 0, TWV.out.mr.cells 1, TWV.out.mr.cells 3, TWV.out.mr.cells 4⟩
              clear hK K
              try simp only [Act.put, List.setIfInBounds_toArray, List.set_cons_zero, List.set_cons_succ]
              refine takeD (i := 18) (oi := _) (v := ?vv90) (d := some 246) rfl (by kernel_rfl) (by kernel_rfl) (by kernel_rfl) (by kernel_rfl) (fun _ _ _ h => h) (Or.inl ⟨by kernel_rfl, ?_⟩) (by assumption) ?_
              rotate_left 1
              · intro W_ hSw; (try dsimp only at hSw); go_simp; (first | done | with_reducible rfl)
              try simp only [Act.put, List.setIfInBounds_toArray, List.set_cons_zero, List.set_cons_succ]
              refine takeD (i := 19) (oi := _) (v := ?vv91) (d := some 247) rfl (by kernel_rfl) (by kernel_rfl) (by kernel_rfl) (by kernel_rfl) (fun _ _ _ h => h) (Or.inl ⟨by kernel_rfl, ?_⟩) (by assumption) ?_
              rotate_left 1
              · intro W_ hSw; (try dsimp only at hSw); go_simp; (first | done | with_reducible rfl)
              try simp only [Act.put, List.setIfInBounds_toArray, List.set_cons_zero, List.set_cons_succ]
              refine takeD (i := 20) (oi := _) (v := ?vv92) (d := some 248) rfl (by kernel_rfl) (by kernel_rfl) (by kernel_rfl) (by kernel_rfl) (fun _ _ _ h => h) (Or.inl ⟨by kernel_rfl, ?_⟩) (by assumption) ?_
              rotate_left 1
              · intro W_ hSw; (try dsimp only at hSw); go_simp; (first | done | with_reducible rfl)
              try simp only [Act.put, List.setIfInBounds_toArray, List.set_cons_zero, List.set_cons_succ]
              refine takeD (i := 21) (oi := _) (v := ?vv93) (d := some 249) rfl (by kernel_rfl) (by kernel_rfl) (by kernel_rfl) (by kernel_rfl) (fun _ _ _ h => h) (Or.inl ⟨by kernel_rfl, ?_⟩) (by assumption) ?_
              rotate_left 1
              · intro W_ hSw; (try dsimp only at hSw); go_simp; (first | done | with_reducible rfl)
              try simp only [Act.put, List.setIfInBounds_toArray, List.set_cons_zero, List.set_cons_succ]
              refine takeD (i := 23) (oi := _) (v := ?vv94) (d := some 251) rfl (by kernel_rfl) (by kernel_rfl) (by kernel_rfl) (by kernel_rfl) (fun _ _ _ h => h) (Or.inl ⟨by kernel_rfl, ?_⟩) (by assumption) ?_
              rotate_left 1
              · intro W_ hSw; (try dsimp only at hSw); go_simp; (first | done | with_reducible rfl)
              try simp only [Act.put, List.setIfInBounds_toArray, List.set_cons_zero, List.set_cons_succ]
              refine takeD (i := 24) (oi := _) (v := ?vv95) (d := some 252) rfl (by kernel_rfl) (by kernel_rfl) (by kernel_rfl) (by kernel_rfl) (fun _ _ _ h => h) (Or.inl ⟨by kernel_rfl, ?_⟩) (by assumption) ?_
              rotate_left 1
              · intro W_ hSw; (try dsimp only at hSw); go_simp; (first | done | with_reducible rfl)
              try simp only [Act.put, List.setIfInBounds_toArray, List.set_cons_zero, List.set_cons_succ]
              refine takeD (i := 25) (oi := _) (v := ?vv96) (d := some 253) rfl (by kernel_rfl) (by kernel_rfl) (by kernel_rfl) (by kernel_rfl) (fun _ _ _ h => h) (Or.inl ⟨by kernel_rfl, ?_⟩) (by assumption) ?_
              rotate_left 1
              · intro W_ hSw; (try dsimp only at hSw); go_simp; (first | done | with_reducible rfl)
              try simp only [Act.put, List.setIfInBounds_toArray, List.set_cons_zero, List.set_cons_succ]
              refine takeD (i := 26) (oi := _) (v := ?vv97) (d := some 254) rfl (by kernel_rfl) (by kernel_rfl) (by kernel_rfl) (by kernel_rfl) (fun _ _ _ h => h) (Or.inl ⟨by kernel_rfl, ?_⟩) (by assumption) ?_
              rotate_left 1
              · intro W_ hSw; (try dsimp only at hSw); go_simp; (first | done | with_reducible rfl)
              try simp only [Act.put, List.setIfInBounds_toArray, List.set_cons_zero, List.set_cons_succ]
              refine takeD (i := 27) (oi := _) (v := ?vv98) (d := some 255) rfl (by kernel_rfl) (by kernel_rfl) (by kernel_rfl) (by kernel_rfl) (fun _ _ _ h => h) (Or.inl ⟨by kernel_rfl, ?_⟩) (by assumption) ?_
              rotate_left 1
              · intro W_ hSw; (try dsimp only at hSw); go_simp; (first | done | with_reducible rfl)
              try simp only [Act.put, List.setIfInBounds_toArray, List.set_cons_zero, List.set_cons_succ]
              refine takeD (i := 28) (oi := _) (v := ?vv99) (d := some 256) rfl (by kernel_rfl) (by kernel_rfl) (by kernel_rfl) (by kernel_rfl) (fun _ _ _ h => h) (Or.inl ⟨by kernel_rfl, ?_⟩) (by assumption) ?_
              rotate_left 1
              · intro W_ hSw; (try dsimp only at hSw); go_simp; (first | done | with_reducible rfl)
              try simp only [Act.put, List.setIfInBounds_toArray, List.set_cons_zero, List.set_cons_succ]
              refine wpAnyH_ready (rs := [22]) (by kernel_rfl) (by simp) ?_
              refine AllReadyH.cons (o := _) rfl (fun K hK => ?_) AllReadyH.nil
              go_simp
              (go_at_call 24; (with_reducible refine (free_any TWV.out.dk LGV.out.at_).mono ?_); rintro e v2 ⟨rfl, bb⟩; have TWX := Lib.hid (TWV.out.to bb); have LGX := Lib.hid (LGV.out.to bb); have BEX := Lib.hid (BEV.out.trans (bb.mono BEV.out.size)); clear bb)
              go_wp2_with fail
              refine hK.out _ _ ?_ (fun hHeld => ?_)
              · exact ⟨TWX.out.mr.cells 0, TWX.out.mr.cells 1, TWX.out.mr.cells 3, TWX.out.mr.cells 4⟩
              clear hK K
              try simp only [Act.put, List.setIfInBounds_toArray, List.set_cons_zero, List.set_cons_succ]
              refine takeD (i := 29) (oi := _) (v := ?vv100) (d := some 257) rfl (by kernel_rfl) (by kernel_rfl) (by kernel_rfl) (by kernel_rfl) (fun _ _ _ h => h) (Or.inl ⟨by kernel_rfl, ?_⟩) (by assumption) ?_
              rotate_left 1
              · intro W_ hSw; (try dsimp only at hSw); go_simp; (first | done | with_reducible rfl)
              try simp only [Act.put, List.setIfInBounds_toArray, List.set_cons_zero, List.set_cons_succ]
              refine takeD (i := 30) (oi := _) (v := ?vv101) (d := some 258) rfl (by kernel_rfl) (by kernel_rfl) (by kernel_rfl) (by kernel_rfl) (fun _ _ _ h => h) (Or.inl ⟨by kernel_rfl, ?_⟩) (by assumption) ?_
              rotate_left 1
              · intro W_ hSw; (try dsimp only at hSw); go_simp; (first | done | with_reducible rfl)
              try simp only [Act.put, List.setIfInBounds_toArray, List.set_cons_zero, List.set_cons_succ]
              refine wpAnyH_done (by kernel_rfl) ?_ _
              go_wp2
              go_roundw
              case rel => exact ⟨k + 1, gl1, D1, Ad1, cd1, Am1, cm1, by omega, rfl, by go_num, TWX.out, LGX.out, BEX.out⟩
              case measure => simp [intOf]; omega
          · obtain rfl : k = n := by omega
            have BE := Lib.hid hbe
            go_wp2_with fail
            refine (kw.out _).mono ?_
            rintro e w7 ⟨rfl, b7⟩
            go_wp2
            go_ret
            exact ⟨rfl, BE.out.trans (b7.mono BE.out.size)⟩
  · rw [if_neg hL] at hif
    subst hif
    go_wp2_with fail
    refine (kw.out _).mono ?_
    rintro e w7 ⟨rfl, b7⟩
    go_wp2
    go_ret
    exact ⟨rfl, BE.out.trans (b7.mono BE.out.size)⟩
end Go.Proofs.Ytbokggilfepdhaa
