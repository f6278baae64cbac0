/- The walks of bank.fit, bank.Over. -/
import Derived.Test.YtkilpiiljpeamaaCopyN
import Derived.Test.YtkilpiiljpeamaaRow
import Derived.StillTailTactics
import Derived.Deep.DeepCutAuto
namespace Go.Proofs.Ytkilpiiljpeamaa
open Go.RowKit
set_option linter.unusedVariables false
attribute [local go_sem] Later.cell Later.frozen setCell_twice
theorem fit1_any (b : Blk) (r : Bool) (w : World) (hb : b.Ok w w.heap.size) (hr : Bk.fits b.a b.ws.length = !r) :
    Calls Try.prog 35 #[.agg #[.int .i64 b.a, .slice b.A b.ws.length b.c]] w fun e w' => e = .returned (.bool r) ∧ Below w.heap.size w w' := by
  have kf := Lib.hid (fun W => fits_any b.a b.ws.length b.c b.A (!r) W hb.lo hb.hi (Nat.le_trans hb.ln hb.cap) hr)
  clear hr
  go_enter Try.func35, Try.ntmps35
  go_wp2_with fail
  refine (kf.out _).mono ?_
  rintro e_x1 w_x1 ⟨rfl, hb_x1⟩
  obtain ⟨x1, rfl⟩ := later_is hb_x1
  clear hb_x1
  have hz_x1 := x1.bel.size
  try simp at hz_x1
  go_wp2
  go_ret
  exact ⟨by simp, (by repeat (first | with_reducible exact Below.refl _ _ | with_reducible refine bel_later _ ?_ | with_reducible refine bel_alloc ?_ _ | refine bel_set ?_ (by first | omega | (simp; done) | (simp; omega)) _ | with_reducible refine Below.drew ?_ | with_reducible refine bel_drewN ?_ _ | with_reducible assumption | assumption))⟩
set_option maxHeartbeats 1000000 in
theorem indexFunc_any (A : Option Addr) (l : List Blk) (c n : Nat) (w : World) (hn : l.length = n) (h : Blks w w.heap.size A l) (hn63 : n ≤ 9223372036854775807) :
    Calls Try.prog 36 #[.slice A n c, .func (.func 35) #[] #[]] w (Found (!Bk.fit (prs l)) w) := by
  have HN := Lib.hid hn
  clear hn
  go_enter Try.func36, Try.ntmps36
  go_wp2
  go_loopw [8] (fun i wr => ∃ k : Nat, k ≤ n ∧ i = .int .i64 k ∧ Hid (Bk.fit (prs (l.take k)) = true) ∧ Below w.heap.size w wr) (fun i _ => n - (intOf i).toNat)
  case atStart => exact ⟨0, by omega, rfl, Lib.hid (by simp [Bk.fit]), Below.refl _ _⟩
  case round =>
    obtain ⟨k, hk, rfl, heq, hbel⟩ := hrel
    by_cases hlt : k < n
    · obtain ⟨g1, o1, x, rfl, hg1, hx, hxo, hx0, hx1⟩ := (h.to hbel).at_ (k := k) (by rw [HN.out]; exact hlt)
      have e1 : (k : Int) < (n : Int) := by omega
      obtain ⟨r, hr⟩ : ∃ r, Bk.fits x.a x.ws.length = !r := ⟨!Bk.fits x.a x.ws.length, by simp⟩
      have ks := Lib.hid (fun W (h : Below wr.heap.size wr W) => fit1_any x r W (hxo.to h) hr)
      have HX := Lib.hid hx
      have HRR := Lib.hid hr
      clear hx hr hxo
      go_wp2_with fail
      refine (ks.out _ (by repeat (first | with_reducible exact Below.refl _ _ | with_reducible refine bel_later _ ?_ | with_reducible refine bel_alloc ?_ _ | refine bel_set ?_ (by first | omega | (simp; done) | (simp; omega)) _ | with_reducible refine Below.drew ?_ | with_reducible refine bel_drewN ?_ _ | with_reducible assumption | assumption))).mono ?_
      rintro e_x3 w_x3 ⟨rfl, hb_x3⟩
      obtain ⟨x3, rfl⟩ := later_is hb_x3
      clear hb_x3
      have hz_x3 := x3.bel.size
      try simp at hz_x3
      cases r
      · go_wp2
        go_roundw
        case rel =>
          refine ⟨k + 1, by omega, by go_num, Lib.hid ?_, (by repeat (first | with_reducible exact Below.refl _ _ | with_reducible refine bel_later _ ?_ | with_reducible refine bel_alloc ?_ _ | refine bel_set ?_ (by first | omega | (simp; done) | (simp; omega)) _ | with_reducible refine Below.drew ?_ | with_reducible refine bel_drewN ?_ _ | with_reducible assumption | assumption))⟩
          rw [List.take_add_one, HX.out]
          have := heq.out
          have h2 := HRR.out
          simp only [Bk.fit, prs, Option.toList, List.map_append, List.all_append, List.map_cons, List.map_nil, List.all_cons, List.all_nil, Bool.and_true, Bool.and_eq_true] at this ⊢
          exact ⟨this, h2⟩
        case measure => simp [intOf]; omega
      · have HD : Hid (Bk.fit (prs l) = false) := Lib.hid (by
          rw [Bool.eq_false_iff]
          intro h
          have := Bk.fit_iff.1 h _ (List.mem_of_getElem? (prs_get HX.out))
          have h2 := HRR.out
          rw [show Bk.fits x.pr.1 x.pr.2.length = Bk.fits x.a x.ws.length from rfl, h2] at this
          cases this)
        go_wp2
        go_ret
        exact ⟨(k : Int), rfl, by rw [HD.out]; simp, (by repeat (first | with_reducible exact Below.refl _ _ | with_reducible refine bel_later _ ?_ | with_reducible refine bel_alloc ?_ _ | refine bel_set ?_ (by first | omega | (simp; done) | (simp; omega)) _ | with_reducible refine Below.drew ?_ | with_reducible refine bel_drewN ?_ _ | with_reducible assumption | assumption))⟩
    · obtain rfl : k = n := by omega
      go_wp2
      go_ret
      refine ⟨-1, rfl, ?_, (by repeat (first | with_reducible exact Below.refl _ _ | with_reducible refine bel_later _ ?_ | with_reducible refine bel_alloc ?_ _ | refine bel_set ?_ (by first | omega | (simp; done) | (simp; omega)) _ | with_reducible refine Below.drew ?_ | with_reducible refine bel_drewN ?_ _ | with_reducible assumption | assumption))⟩
      have := heq.out
      rw [List.take_of_length_le (by rw [HN.out]; exact Nat.le_refl _)] at this
      rw [this]
      rfl
theorem bkfit_any (A : Option Addr) (l : List Blk) (c n : Nat) (w : World) (hn : l.length = n) (h : Blks w w.heap.size A l) (hn63 : n ≤ 9223372036854775807) :
    Calls Try.prog 26 #[.slice A n c] w fun e w' => e = .returned (.bool (Bk.fit (prs l))) ∧ Below w.heap.size w w' := by
  have ki := Lib.hid (fun W (hW : Below w.heap.size w W) => indexFunc_any A l c n W hn (h.to hW) hn63)
  have kc : Hid (∀ W, Below w.heap.size w W → Calls Try.prog 34 #[.slice A n c, .func (.func 35) #[] #[]] W fun e w' => e = .returned (.bool (!Bk.fit (prs l))) ∧ Below W.heap.size W w') := Lib.hid (fun W hW => by
    have k2 := ki.out W hW
    clear ki
    go_enter Try.func34, Try.ntmps34
    go_wp2_with fail
    refine k2.mono ?_
    rintro e w1 ⟨r, rfl, hr, b1⟩
    go_wp2
    go_ret
    exact ⟨by first | rfl | (rw [hr]), b1⟩)
  clear ki
  go_enter Try.func26, Try.ntmps26
  go_wp2_with fail
  refine (kc.out _ (by repeat (first | with_reducible exact Below.refl _ _ | with_reducible refine bel_later _ ?_ | with_reducible refine bel_alloc ?_ _ | refine bel_set ?_ (by first | omega | (simp; done) | (simp; omega)) _ | with_reducible refine Below.drew ?_ | with_reducible refine bel_drewN ?_ _ | with_reducible assumption | assumption))).mono ?_
  rintro e_x1 w_x1 ⟨rfl, hb_x1⟩
  obtain ⟨x1, rfl⟩ := later_is hb_x1
  clear hb_x1
  have hz_x1 := x1.bel.size
  try simp at hz_x1
  go_wp2
  go_ret
  exact ⟨by simp, (by repeat (first | with_reducible exact Below.refl _ _ | with_reducible refine bel_later _ ?_ | with_reducible refine bel_alloc ?_ _ | refine bel_set ?_ (by first | omega | (simp; done) | (simp; omega)) _ | with_reducible refine Below.drew ?_ | with_reducible refine bel_drewN ?_ _ | with_reducible assumption | assumption))⟩
def OverP (bank : List Nat) (l : List Bk.Pr) (w : World) (e : Ending) (w' : World) : Prop :=
  Below w.heap.size w w' ∧ if bank.length = 64 then (if Bk.fit l = true then ∃ A c, e = .returned (.tuple #[.slice A 64 c, .int .i64 0]) ∧ w'.ownsRow w.heap.size 25 1 (.slice A 64 c) 64 ((Bk.over bank l).map u16w) else e = .returned (.tuple #[.slice none 0 0, .int .i64 20])) else e = .returned (.tuple #[.slice none 0 0, .int .i64 21])
theorem put_splice (L : List Nat) (p : Bk.Pr) : Bk.put L p = splice L p.1.toNat p.2 := rfl
set_option maxRecDepth 100000 in
set_option maxHeartbeats 1000000 in
theorem over_any (A0 : Option Addr) (bank : List Nat) (c0 n0 : Nat) (A : Option Addr) (l : List Blk) (c n : Nat) (w : World) (hb : Sq u16w w w.heap.size A0 bank) (hn0 : bank.length = n0) (hA0 : A0 = none → c0 = 0) (hn : l.length = n) (h : Blks w w.heap.size A l) (hn63 : n ≤ 9223372036854775807) :
    Calls Try.prog 10 #[.slice A0 n0 c0, .slice A n c] w (OverP bank (prs l) w) := by
  have kf := Lib.hid (fun W (hW : Below w.heap.size w W) => bkfit_any A l c n W hn (h.to hW) hn63)
  obtain ⟨r, hr⟩ : ∃ r, Bk.fit (prs l) = r := ⟨_, rfl⟩
  rw [hr] at kf
  by_cases h64 : n0 = 64
  · subst h64
    have HN0 := Lib.hid hn0
    cases r
    · have HR := Lib.hid hr
      clear hr hn hn0
      go_enter Try.func10, Try.ntmps10
      go_wp2_with fail
      refine (kf.out _ (Below.refl _ _)).mono ?_
      rintro e w1 ⟨rfl, b1⟩
      go_wp2
      go_ret2
      exact ⟨b1, by rw [if_pos HN0.out, if_neg (by rw [HR.out]; decide)]; rfl⟩
    · have HR := Lib.hid hr
      have HN := Lib.hid hn
      have kc := Lib.hid (fun W (hW : Below w.heap.size w W) => clone_any A0 bank 64 c0 W ((hb.below hW).more hW.size) (by rw [hn0]; decide) hn0 hA0)
      clear hr hn hn0
      go_enter Try.func10, Try.ntmps10
      go_wp2_with fail
      refine (kf.out _ (Below.refl _ _)).mono ?_
      rintro e w1 ⟨rfl, b1⟩
      have B1 := Lib.hid b1
      clear b1
      go_wp2_with fail
      refine (kc.out _ B1.out).mono ?_
      rintro e w2 ⟨A2, c2, rfl, o2, b2⟩
      have hA2 : ∃ g2, A2 = some ⟨g2, 0, none⟩ := by
        rw [HN0.out] at o2
        rcases o2.2 with ⟨h1, h2⟩ | ⟨g, cap, cur, hv, _⟩
        · cases h2
        · exact ⟨g, by simpa using (show A2 = some ⟨g, 0, none⟩ ∧ _ by simpa using hv).1⟩
      obtain ⟨g2, rfl⟩ := hA2
      rw [HN0.out] at o2 ⊢
      have O2 := Lib.hid (own_more o2 B1.out.size)
      have B2 := Lib.hid (B1.out.trans (b2.mono B1.out.size))
      clear o2 b2 B1
      go_wp2
      go_loopw [18] (fun i wr => ∃ k : Nat, k ≤ n ∧ i = .int .i64 k ∧ wr.ownsRow w.heap.size 25 1 (.slice (some ⟨g2, 0, none⟩) 64 c2) 64 ((Bk.over bank (prs (l.take k))).map u16w) ∧ Below w.heap.size w wr) (fun i _ => n - (intOf i).toNat)
      case atStart => exact ⟨0, by omega, rfl, by rw [List.take_zero]; rw [show Bk.over bank (prs []) = bank from Bk.over_nil bank]; exact O2.out, B2.out⟩
      case round =>
        clear O2 B2
        obtain ⟨k, hk, rfl, hown, hbel⟩ := hrel
        by_cases hlt : k < n
        · obtain ⟨g1, o1, x, rfl, hg1, hx, hxo, hx0, hx1⟩ := (h.to hbel).at_ (k := k) (by rw [HN.out]; exact hlt)
          have e1 : (k : Int) < (n : Int) := by omega
          have h0I : (0 : Int) ≤ (k : Int) := by omega
          have hfx : Bk.fits x.a x.ws.length = true := Bk.fit_iff.1 HR.out _ (List.mem_of_getElem? (prs_get hx))
          have hf := Bk.fits_iff.1 hfx
          obtain ⟨a, ha⟩ : ∃ a : Nat, x.a = (a : Int) := ⟨x.a.toNat, by omega⟩
          obtain ⟨m, hm⟩ : ∃ m, x.ws.length = m := ⟨_, rfl⟩
          have ham : a + m ≤ 64 := by omega
          have hm14 : m ≤ 14 := by omega
          have ha64 : a < 64 := by omega
          rw [ha] at hx0
          rw [hm] at hx1
          have HOV : Hid (splice (Bk.over bank (prs (l.take k))) a x.ws = Bk.over bank (prs (l.take (k + 1)))) := Lib.hid (by
            rw [prs, prs, List.map_take, List.map_take, Bk.over_take_succ HN0.out (prs_get hx) hfx, put_splice, show x.pr.1.toNat = a by show x.a.toNat = a; omega])
          have HXM := Lib.hid hm
          have HS := Lib.hid hxo.sq
          have OW := Lib.hid hown
          have BE := Lib.hid hbel
          have hgr : g1 < wr.heap.size := hg1
          clear hx hxo hfx hf ha hm hown hbel
          go_upto_region 9 with fail
          obtain ⟨W, hW⟩ : ∃ W, wr.alloc (.cells #[.int .i64 (a : Int), .slice x.A m x.c] 34) = W := ⟨_, rfl⟩
          have w0 : W.cell? ⟨wr.heap.size, 0, none⟩ = some (.int .i64 (a : Int)) := by rw [← hW]; simp [go_sem]
          have w1 : W.cell? ⟨wr.heap.size, 1, none⟩ = some (.slice x.A m x.c) := by rw [← hW]; simp [go_sem]
          have wl : wr.heap.size < W.heap.size := by rw [← hW]; simp
          have ba : Below wr.heap.size wr W := by rw [← hW]; exact bel_alloc (Below.refl _ _) _
          rw [hW]
          have OW2 := Lib.hid (own_below OW.out ba)
          have BE2 := Lib.hid (BE.out.trans (ba.mono BE.out.size))
          have HS2 := Lib.hid ((HS.out.below ba).more ba.size)
          clear hW ba OW BE HS
          generalize wr.heap.size = g7 at *
          have haI : (a : Int) ≤ 64 := by omega
          have hca : ¬ c2 = a := by
            rcases OW2.out.2 with ⟨h1, h2⟩ | ⟨g, cap, cur, hv, _, _, h3, _⟩
            · cases h2
            · have : c2 = cap := by simpa using (show _ ∧ c2 = cap by simpa using hv).2
              omega
          have hlen : (Bk.over bank (prs (l.take k))).length = 64 := by rw [Bk.over_length, HN0.out]
          have HLEN := Lib.hid hlen
          clear hlen
          refine wp_region_still_tail 6 (by kernel_rfl) (by kernel_rfl) ?_
          simp only [List.take_succ_cons, List.take_zero, List.drop_succ_cons, List.drop_zero]
          obtain ⟨V, hV⟩ : ∃ V : World, ({ heap := W.heap, tape := W.tape, drawn := W.drawn + 1, os := W.os, output := W.output } : World) = V := ⟨_, rfl⟩
          rw [hV]
          have v0 : V.cell? ⟨g7, 0, none⟩ = some (.int .i64 (a : Int)) := by rw [← hV]; exact w0
          have v1 : V.cell? ⟨g7, 1, none⟩ = some (.slice x.A m x.c) := by rw [← hV]; exact w1
          have OV : Hid (V.ownsRow w.heap.size 25 1 (.slice (some ⟨g2, 0, none⟩) 64 c2) 64 ((Bk.over bank (prs (l.take k))).map u16w)) := Lib.hid (by rw [← hV]; exact OW2.out)
          have BV : Hid (Below w.heap.size w V) := Lib.hid (by rw [← hV]; exact BE2.out.drew)
          have SV : Hid (Sq u16w V V.heap.size x.A x.ws) := Lib.hid (by rw [← hV]; exact HS2.out)
          clear hV OW2 BE2 HS2 w0 w1
          repeat still_step
          try refine wpStill_nil ?_
          go_wp2_with (
            refine wpList_copy_row rfl (.tmp 25) (.tmp 27) rfl w.heap.size g2 a 64 c2 (Bk.over bank (prs (l.take k))) x.ws OV.out _ _ _ rfl (fun hp => rfl) x.A m x.c V.heap.size rfl HXM.out (by show m ≤ 64 - a; omega) SV.out (by omega) ?_
            intro w5 o5 b5
            rw [HOV.out] at o5
            have O5 := Lib.hid o5
            have B5 := Lib.hid (BV.out.trans b5)
            clear o5 b5)
          go_roundw
          case rel => exact ⟨k + 1, by omega, by go_num, O5.out, B5.out⟩
          case measure => simp [intOf]; omega
        · obtain rfl : k = n := by omega
          have OW := Lib.hid hown
          have BE := Lib.hid hbel
          rw [List.take_of_length_le (by rw [HN.out]; exact Nat.le_refl _)] at hown
          go_wp2
          go_ret2
          exact ⟨BE.out, by rw [if_pos HN0.out, if_pos HR.out]; exact ⟨_, _, rfl, hown⟩⟩
  · have gn : ((n0 : Int) != 64) = true := by simp; omega
    have HN0 := Lib.hid hn0
    clear hn0 hn hr
    go_enter Try.func10, Try.ntmps10
    go_wp2
    go_ret2
    exact ⟨Below.refl _ _, by rw [if_neg (by rw [HN0.out]; exact h64)]; rfl⟩
end Go.Proofs.Ytkilpiiljpeamaa
