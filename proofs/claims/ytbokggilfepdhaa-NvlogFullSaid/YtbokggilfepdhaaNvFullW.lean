/- NvlogFull: the walk. -/
import Derived.Test.YtbokggilfepdhaaNvOp
import Derived.Test.YtbokggilfepdhaaNvOpen
import Derived.Test.YtbokggilfepdhaaNvAwk
import Derived.Test.YtbokggilfepdhaaDkFree
namespace Go.Proofs.Ytbokggilfepdhaa
open Go.RowKit
set_option linter.unusedVariables false
attribute [local go_sem] Later.cell Later.frozen setCell_twice
theorem Dk.lopen_new (r : Nat) : (Dk.new r).lopen = (Dk.new r, [], 0) := by
  unfold Dk.lopen
  rw [show Nr.read (Dk.new r).l = ([], 0) from Nr.read_nil]
  rfl
set_option maxRecDepth 100000 in
set_option maxHeartbeats 1000000 in
theorem nvlogFull_walk (a : Nat) (ha : a < 65536) (A : Option Addr) (l : List NOp) (c : Nat) (w : World) (h : NOps w w.heap.size A l) (hlc : l.length ≤ c) (hc : c ≤ 9223372036854775807) (hA : A = none → c = 0) :
    Calls Try.prog 6 #[.int .u16 (a : Int), .slice A l.length c] w fun e w' => e = .returned (.bool true) ∧ Below w.heap.size w w' := by
  have HB := Lib.hid h
  have kw := Lib.hid (fun w => awake_any w)
  obtain ⟨r, hr⟩ : ∃ r, a % 601 = r := ⟨_, rfl⟩
  have hrI : (a : Int) % 601 = (r : Int) := by omega
  have hr2 : r ≤ 262144 := by omega
  have kl := nlight_any A l c w h hlc hc hA
  clear h hr
  go_enter Try.func6, Try.ntmps6
  go_wp2_with fail
  refine kl.mono ?_
  rintro e w1 ⟨b1, hif⟩
  have B1 := Lib.hid b1
  have hz1 := b1.size
  clear kl b1
  by_cases hL : NLight l = true
  · rw [if_pos hL] at hif
    obtain ⟨c', rfl⟩ := hif
    obtain ⟨n, hn⟩ : ∃ n, (l.take 40).length = n := ⟨_, rfl⟩
    have HN := Lib.hid hn
    rw [hn]
    have hn60 : n ≤ 40 := by rw [← hn, List.length_take]; omega
    clear hn
    go_wp2_with fail
    refine (new_any r w1 hr2).mono ?_
    rintro e w2 ⟨rfl, k2, b2⟩
    have K2 := Lib.hid k2
    have B2 := Lib.hid (B1.out.trans (b2.mono hz1))
    obtain ⟨gd, hgd⟩ : ∃ gd, w1.heap.size = gd := ⟨_, rfl⟩
    rw [hgd] at K2 hz1 ⊢
    clear hgd k2 b2
    have ko := open_any K2.out
    rw [Dk.lopen_new] at ko
    go_wp2_with fail
    refine ko.mono ?_
    clear ko
    rintro e w3 ⟨A3, c3, pl, Ar, m, cr, rs, dk3, mv3, fr3, rfl, ol3, hrs3, hnl3, apg, apa, hz3, hnz3⟩
    obtain ⟨gl, rfl, lg3, hgl3, hag3⟩ := hz3 rfl
    have hgd2 : gd < gl := Nat.lt_of_lt_of_le K2.out.lt hgl3
    have K3 := Lib.hid dk3
    have L3 := Lib.hid lg3
    have B3 := Lib.hid (B2.out.trans ((K2.out.moves mv3).mono hz1))
    have HA3 := Lib.hid hag3
    clear dk3 mv3 fr3 ol3 hrs3 hnl3 apg apa hz3 hnz3 lg3 hag3 K2 B2
    go_wp2
    go_loopw [50] (fun i wr => ∃ (k : Nat) (D : Dk) (Ad : Option Addr) (cd : Nat), k ≤ n ∧ i = .int .i64 (k : Int) ∧ DkAt wr gd gd Ad cd D ∧ LogAt wr gl gd ∧ Hid (∀ p, Ad = some p → p.block ≠ gl) ∧ Hid (D.left = none ∧ D.off = false ∧ D.safe = D.l.length) ∧ Below w.heap.size w wr) (fun i _ => n - (intOf i).toNat)
    case atStart => exact ⟨0, Dk.new r, A3, c3, by omega, rfl, K3.out, L3.out, HA3, Lib.hid ⟨rfl, rfl, rfl⟩, B3.out⟩
    case round =>
      clear K3 L3 HA3
      rename World => wr
      obtain ⟨k, D, Ad, cd, hk, rfl, hdk, hlg, hagl, hlf, hbe⟩ := hrel
      by_cases hlt : k < n
      · obtain ⟨go, oo, o, hA', hg, ho, hok, hd⟩ := (HB.out.below hbe).at_ (k := k) (by have := HN.out; rw [List.length_take] at this; omega)
        have d0 := hd 0 _ rfl
        have d1 := hd 1 _ rfl
        have d2 := hd 2 _ rfl
        have d3 := hd 3 _ rfl
        have d4 := hd 4 _ rfl
        have d5 := hd 5 _ rfl
        have d6 := hd 6 _ rfl
        rw [Nat.add_zero] at d0
        have hltI : (k : Int) < (n : Int) := by omega
        have h0I : (0 : Int) ≤ (k : Int) := by omega
        have hgr : go < wr.heap.size := Nat.lt_of_lt_of_le hg hbe.size
        cases hA'
        have HOB : Hid (o.x.p.text.length ≤ 200) := Lib.hid (of_decide_eq_true (show decide (∀ o ∈ l.take 40, o.x.p.text.length ≤ 200) = true from hL) o (List.mem_of_getElem? (i := k) (by rw [List.getElem?_take, if_pos (by omega)]; exact ho)))
        have HAL : Hid (∀ q, Ad = some q → q.block < wr.heap.size) := Lib.hid (fun q hq => (own_at hdk.own q hq).2.1)
        have hgw : gd < wr.heap.size := hdk.lt
        have hglw : gl < wr.heap.size := hlg.lt
        have BE0 := Lib.hid hbe
        have ba := bel_alloc (Below.refl wr.heap.size wr) (.cells o.C.toArray 51)
        have DK := Lib.hid (hdk.to ba)
        have LG := Lib.hid (hlg.to ba)
        have BE := Lib.hid (hbe.trans (ba.mono hbe.size))
        have XOK := Lib.hid (hok.x.below (ba.mono hbe.size))
        have OR := Lib.hid (RowAt.new' wr wr.heap.size 51 o.C rfl)
        obtain ⟨x, hx⟩ : ∃ x, o.x = x := ⟨_, rfl⟩
        have HLF := hlf
        have HAGL := hagl
        have hla := Dk.lappend_free hlf.out.1 hlf.out.2.1 o.x.p
        have HLA := Lib.hid hla
        have hlen : D.l.length ≤ D.room := hdk.ok.room
        have hroom : D.room ≤ 262144 := hdk.ok.hi
        clear hdk hlg hbe hok ho hd hx hla hagl hlf ba
        have kb := nbytes_any o.x.p o.x.A o.x.c o.x.p.text.length rfl XOK.out.fit _ (XOK.out.sq.more (by have := OR.out.lt; omega)) XOK.out.nl.1
        go_wp2_with (refine wpList_load_mid rfl 34 (.tmp 55) rfl wr.heap.size 1 rfl (rcV o.x.p.what o.x.p.tx o.x.p.who o.x.p.yes o.x.A o.x.p.text.length o.x.c) _ (OR.out.range 1 5) Try.underlying34 rfl size_rec ?_)
        refine kb.mono ?_
        clear kb
        rintro e w4 ⟨bb, hif⟩
        have hw3 : wr.heap.size < w4.heap.size := by have := bb.size; simp at this; omega
        replace XOK := Lib.hid (XOK.out.below (bb.mono BE.out.size))
        replace DK := Lib.hid (DK.out.to bb)
        replace LG := Lib.hid (LG.out.to bb)
        replace OR := Lib.hid (OR.out.to bb)
        replace BE := Lib.hid (BE.out.trans (bb.mono BE.out.size))
        clear bb
        by_cases hr : o.x.p.right = true
        · rw [if_pos hr] at hif
          obtain ⟨An, cn, rfl, on⟩ := hif
          obtain ⟨nb, hnb⟩ : ∃ nb, o.x.p.bytes.length = nb := ⟨_, rfl⟩
          rw [hnb]
          have hnb2 : nb ≤ 100000 := by rw [← hnb, Nr.bytes_length, Nr.size]; have := Nr.right_len hr; omega
          have HNB := Lib.hid hnb
          have HRT := Lib.hid hr
          clear on hnb hr
          go_wp2_with fail
          refine (bytes_any DK.out).mono ?_
          rintro e w5 ⟨Aw, cw, rfl, ow, bb⟩
          have OW := Lib.hid ow
          replace XOK := Lib.hid (XOK.out.below (bb.mono BE.out.size))
          replace DK := Lib.hid (DK.out.to bb)
          replace LG := Lib.hid (LG.out.to bb)
          replace OR := Lib.hid (OR.out.to bb)
          replace BE := Lib.hid (BE.out.trans (bb.mono BE.out.size))
          have hw4 := bb.size
          clear ow bb
          go_wp2_with fail
          refine (free_any DK.out LG.out).mono ?_
          rintro e w6 ⟨rfl, bb⟩
          replace OW := Lib.hid (own_below OW.out bb)
          replace XOK := Lib.hid (XOK.out.below (bb.mono BE.out.size))
          replace DK := Lib.hid (DK.out.to bb)
          replace LG := Lib.hid (LG.out.to bb)
          replace OR := Lib.hid (OR.out.to bb)
          replace BE := Lib.hid (BE.out.trans (bb.mono BE.out.size))
          clear bb
          have kap := lappend_any DK.out LG.out (by omega) HAGL.out o.x.p o.x.A o.x.c o.x.p.text.length rfl XOK.out.fit (XOK.out.sq.more BE.out.size) XOK.out.nl.1
          go_wp2_with (refine wpList_load_mid rfl 34 (.tmp 65) rfl wr.heap.size 1 rfl (rcV o.x.p.what o.x.p.tx o.x.p.who o.x.p.yes o.x.A o.x.p.text.length o.x.c) _ (OR.out.range 1 5) Try.underlying34 rfl size_rec ?_)
          have hLGZ : gl < w6.heap.size := LG.out.lt
          have LGZ := Lib.hid hLGZ
          by_cases hf : D.room < D.l.length + nb
          · have HLE : Hid (D.lappend o.x.p = (D, 5)) := Lib.hid (by rw [HLA.out, if_pos HRT.out, HNB.out, if_pos hf])
            have gF : decide ((D.room : Int) - (D.l.length : Int) < (nb : Int)) = true := decide_eq_true (by omega)
            rw [HLE.out] at kap
            refine kap.mono ?_
            clear kap
            rintro e w7 ⟨rfl, Ad1, cd1, dk1, mv1, fr1⟩
            replace OW := Lib.hid (mv1.own OW.out (fun p hp => by have := (own_at OW.out p hp).1; omega) (fun p q hp hq => by have h1 := (own_at OW.out p hp).1; have h2 := HAL.out q hq; omega))
            replace LG := Lib.hid (mv1.row LG.out (by omega) HAGL.out)
            replace XOK := Lib.hid (XOK.out.below ((DK.out.moves mv1).mono hz1))
            replace OR := Lib.hid (mv1.row OR.out (by omega) (fun p hp => by have := HAL.out p hp; omega))
            have HAG : Hid (∀ p, Ad1 = some p → p.block ≠ gl) := Lib.hid (fun p hp => by rcases fr1 with f | f; exact HAGL.out p (f.symm.trans hp); have h1 := f p hp; have h2 := LGZ.out; omega)
            replace BE := Lib.hid (BE.out.trans ((DK.out.moves mv1).mono hz1))
            replace DK := Lib.hid dk1
            clear dk1 mv1 fr1
            go_wp2_with fail
            refine (bytes_any DK.out).mono ?_
            rintro e w9 ⟨Ab, cb, rfl, ob, bb⟩
            have OB := Lib.hid (Sq.of_own ob)
            replace OW := Lib.hid (own_below OW.out bb)
            replace XOK := Lib.hid (XOK.out.below (bb.mono BE.out.size))
            replace DK := Lib.hid (DK.out.to bb)
            replace LG := Lib.hid (LG.out.to bb)
            replace OR := Lib.hid (OR.out.to bb)
            replace BE := Lib.hid (BE.out.trans (bb.mono BE.out.size))
            clear ob bb
            go_wp2_with fail
            refine ((same_by Aw Ab D.l D.l cw cb D.l.length D.l.length true _ rfl rfl (Sq.of_own OW.out) OB.out DK.out.ok.u DK.out.ok.u (by simp))).mono ?_
            rintro e_ w_ ⟨rfl, rfl⟩
            go_wp2
            go_roundw
            case rel => exact ⟨k + 1, D, Ad1, cd1, by omega, by go_num, DK.out, LG.out, HAG, HLF, BE.out⟩
            case measure => simp [intOf]; omega
          · obtain ⟨D1, hD1⟩ : ∃ D1 : Dk, ({ D with l := D.l ++ o.x.p.bytes, safe := (D.l ++ o.x.p.bytes).length } : Dk) = D1 := ⟨_, rfl⟩
            have HLE : Hid (D.lappend o.x.p = (D1, 0)) := Lib.hid (by rw [HLA.out, if_pos HRT.out, HNB.out, if_neg hf, hD1])
            have hL1 : D1.l.length = D.l.length + nb := by rw [← hD1, ← HNB.out]; exact List.length_append
            have hR1 : D1.room = D.room := by rw [← hD1]
            have hS1 : D1.safe = D1.l.length := by rw [← hD1]
            have HLF1 : Hid (D1.left = none ∧ D1.off = false ∧ D1.safe = D1.l.length) := Lib.hid (by rw [← hD1]; exact ⟨HLF.out.1, HLF.out.2.1, rfl⟩)
            have gF : decide ((D.room : Int) - (D.l.length : Int) < (nb : Int)) = false := decide_eq_false (by omega)
            have gQ : ((D1.room : Int) - (D1.l.length : Int) != (D.room : Int) - (D.l.length : Int) - (nb : Int)) = false := by simp; omega
            have gS : ((D1.safe : Int) != (D1.l.length : Int)) = false := by simp; omega
            clear hD1 hL1 hR1 hS1
            rw [HLE.out] at kap
            refine kap.mono ?_
            clear kap
            rintro e w7 ⟨rfl, Ad1, cd1, dk1, mv1, fr1⟩
            replace OW := Lib.hid (mv1.own OW.out (fun p hp => by have := (own_at OW.out p hp).1; omega) (fun p q hp hq => by have h1 := (own_at OW.out p hp).1; have h2 := HAL.out q hq; omega))
            replace LG := Lib.hid (mv1.row LG.out (by omega) HAGL.out)
            replace XOK := Lib.hid (XOK.out.below ((DK.out.moves mv1).mono hz1))
            replace OR := Lib.hid (mv1.row OR.out (by omega) (fun p hp => by have := HAL.out p hp; omega))
            have HAG : Hid (∀ p, Ad1 = some p → p.block ≠ gl) := Lib.hid (fun p hp => by rcases fr1 with f | f; exact HAGL.out p (f.symm.trans hp); have h1 := f p hp; have h2 := LGZ.out; omega)
            replace BE := Lib.hid (BE.out.trans ((DK.out.moves mv1).mono hz1))
            replace DK := Lib.hid dk1
            clear dk1 mv1 fr1
            go_wp2_with fail
            refine (free_any DK.out LG.out).mono ?_
            rintro e w8 ⟨rfl, bb⟩
            replace XOK := Lib.hid (XOK.out.below (bb.mono BE.out.size))
            replace DK := Lib.hid (DK.out.to bb)
            replace LG := Lib.hid (LG.out.to bb)
            replace OR := Lib.hid (OR.out.to bb)
            replace BE := Lib.hid (BE.out.trans (bb.mono BE.out.size))
            clear bb
            go_wp2_with fail
            refine (safe_any DK.out).mono ?_
            rintro e_ w_ ⟨rfl, rfl⟩
            go_wp2_with fail
            refine (len_any DK.out).mono ?_
            rintro e_ w_ ⟨rfl, rfl⟩
            go_wp2
            go_roundw
            case rel => exact ⟨k + 1, D1, Ad1, cd1, by omega, by go_num, DK.out, LG.out, HAG, HLF1, BE.out⟩
            case measure => simp [intOf]; omega
        · rw [if_neg hr] at hif
          subst hif
          have HLE : Hid (D.lappend o.x.p = (D, 50)) := Lib.hid (by rw [HLA.out, if_neg hr])
          clear hr
          go_wp2_with fail
          refine (bytes_any DK.out).mono ?_
          rintro e w5 ⟨Aw, cw, rfl, ow, bb⟩
          have OW := Lib.hid ow
          replace XOK := Lib.hid (XOK.out.below (bb.mono BE.out.size))
          replace DK := Lib.hid (DK.out.to bb)
          replace LG := Lib.hid (LG.out.to bb)
          replace OR := Lib.hid (OR.out.to bb)
          replace BE := Lib.hid (BE.out.trans (bb.mono BE.out.size))
          have hw4 := bb.size
          clear ow bb
          go_wp2_with fail
          refine (free_any DK.out LG.out).mono ?_
          rintro e w6 ⟨rfl, bb⟩
          replace OW := Lib.hid (own_below OW.out bb)
          replace XOK := Lib.hid (XOK.out.below (bb.mono BE.out.size))
          replace DK := Lib.hid (DK.out.to bb)
          replace LG := Lib.hid (LG.out.to bb)
          replace OR := Lib.hid (OR.out.to bb)
          replace BE := Lib.hid (BE.out.trans (bb.mono BE.out.size))
          clear bb
          have kap := lappend_any DK.out LG.out (by omega) HAGL.out o.x.p o.x.A o.x.c o.x.p.text.length rfl XOK.out.fit (XOK.out.sq.more BE.out.size) XOK.out.nl.1
          go_wp2_with (refine wpList_load_mid rfl 34 (.tmp 65) rfl wr.heap.size 1 rfl (rcV o.x.p.what o.x.p.tx o.x.p.who o.x.p.yes o.x.A o.x.p.text.length o.x.c) _ (OR.out.range 1 5) Try.underlying34 rfl size_rec ?_)
          have hLGZ : gl < w6.heap.size := LG.out.lt
          have LGZ := Lib.hid hLGZ
          rw [HLE.out] at kap
          refine kap.mono ?_
          clear kap
          rintro e w7 ⟨rfl, Ad1, cd1, dk1, mv1, fr1⟩
          replace OW := Lib.hid (mv1.own OW.out (fun p hp => by have := (own_at OW.out p hp).1; omega) (fun p q hp hq => by have h1 := (own_at OW.out p hp).1; have h2 := HAL.out q hq; omega))
          replace LG := Lib.hid (mv1.row LG.out (by omega) HAGL.out)
          replace XOK := Lib.hid (XOK.out.below ((DK.out.moves mv1).mono hz1))
          replace OR := Lib.hid (mv1.row OR.out (by omega) (fun p hp => by have := HAL.out p hp; omega))
          have HAG : Hid (∀ p, Ad1 = some p → p.block ≠ gl) := Lib.hid (fun p hp => by rcases fr1 with f | f; exact HAGL.out p (f.symm.trans hp); have h1 := f p hp; have h2 := LGZ.out; omega)
          replace BE := Lib.hid (BE.out.trans ((DK.out.moves mv1).mono hz1))
          replace DK := Lib.hid dk1
          clear dk1 mv1 fr1
          go_wp2_with fail
          refine (bytes_any DK.out).mono ?_
          rintro e w9 ⟨Ab, cb, rfl, ob, bb⟩
          have OB := Lib.hid (Sq.of_own ob)
          replace OW := Lib.hid (own_below OW.out bb)
          replace XOK := Lib.hid (XOK.out.below (bb.mono BE.out.size))
          replace DK := Lib.hid (DK.out.to bb)
          replace LG := Lib.hid (LG.out.to bb)
          replace OR := Lib.hid (OR.out.to bb)
          replace BE := Lib.hid (BE.out.trans (bb.mono BE.out.size))
          clear ob bb
          go_wp2_with fail
          refine ((same_by Aw Ab D.l D.l cw cb D.l.length D.l.length true _ rfl rfl (Sq.of_own OW.out) OB.out DK.out.ok.u DK.out.ok.u (by simp))).mono ?_
          rintro e_ w_ ⟨rfl, rfl⟩
          go_wp2
          go_roundw
          case rel => exact ⟨k + 1, D, Ad1, cd1, by omega, by go_num, DK.out, LG.out, HAG, HLF, BE.out⟩
          case measure => simp [intOf]; omega
      · obtain rfl : k = n := by omega
        have BE := Lib.hid hbe
        go_wp2_with fail
        refine (kw.out _).mono ?_
        rintro e w7 ⟨rfl, b7⟩
        go_wp2
        go_ret
        exact ⟨rfl, BE.out.trans (b7.mono BE.out.size)⟩
  · rw [if_neg hL] at hif
    subst hif
    go_wp2_with fail
    refine (new_any r w1 hr2).mono ?_
    rintro e w2 ⟨rfl, k2, b2⟩
    have B2 := Lib.hid (B1.out.trans (b2.mono hz1))
    clear k2 b2
    go_wp2_with fail
    refine (kw.out _).mono ?_
    rintro e w7 ⟨rfl, b7⟩
    go_wp2
    go_ret
    exact ⟨rfl, B2.out.trans (b7.mono B2.out.size)⟩
end Go.Proofs.Ytbokggilfepdhaa
