/- The walk of saucierlaw17.BankDiff. -/
import Derived.Test.YtkilpiiljpeamaaAwk17
import Derived.Test.YtkilpiiljpeamaaDifLaw
import Derived.Test.YtkilpiiljpeamaaFitB
namespace Go.Proofs.Ytkilpiiljpeamaa
open Go.RowKit
set_option linter.unusedVariables false
attribute [local go_sem] Later.cell Later.frozen setCell_twice
theorem sliced_zero (a : Option Addr) (h m s : Nat) : sliced a 0 h m s = .slice a h m := by
  unfold sliced
  rw [Nat.zero_mul, Nat.sub_zero, Nat.sub_zero]
  cases a with
  | none => simp
  | some p => split <;> rfl
attribute [local go_sem high] sliced_zero
theorem sq_gw {w : World} {B g : Nat} {l : List Nat} (h : Sq u16w w B (some ⟨g, 0, none⟩) l) {j : Nat} (hj : j < l.length) : w.cell? ⟨g, j, none⟩ = some (.int .u16 ((gw l j : Nat) : Int)) := by
  obtain ⟨b, o, hA, _, hc⟩ := h (by omega)
  obtain ⟨rfl, rfl⟩ : g = b ∧ 0 = o := by simpa using hA
  have := hc j _ (List.getElem?_eq_getElem hj)
  rw [Nat.zero_add] at this
  unfold gw
  rw [List.getElem?_eq_getElem hj]
  exact this
theorem sq_lt {w : World} {B g : Nat} {l : List Nat} (h : Sq u16w w B (some ⟨g, 0, none⟩) l) (hl : 0 < l.length) : g < B := by
  obtain ⟨b, o, hA, hb, _⟩ := h hl
  obtain ⟨rfl, rfl⟩ : g = b ∧ 0 = o := by simpa using hA
  exact hb
set_option maxRecDepth 100000 in
set_option maxHeartbeats 2000000 in
theorem bankDiff_walk (A0 : Option Addr) (la : List Nat) (c0 : Nat) (A1 : Option Addr) (lp : List Nat) (c1 : Nat) (A2 : Option Addr) (lb : List Nat) (c2 : Nat) (w : World)
    (h0 : Sq u16w w w.heap.size A0 la) (hu0 : ∀ x ∈ la, x < 65536) (h1 : Sq (fun x : Nat => .int .u8 (x : Int)) w w.heap.size A1 lp) (hu1 : ∀ x ∈ lp, x < 256) (hl1 : lp.length ≤ c1) (hc1 : c1 ≤ 9223372036854775807) (h2 : Sq u16w w w.heap.size A2 lb) (hu2 : ∀ x ∈ lb, x < 65536) :
    Calls Try.prog 3 #[.slice A0 la.length c0, .slice A1 lp.length c1, .slice A2 lb.length c2] w fun e w' => e = .returned (.bool true) ∧ Below w.heap.size w w' := by
  obtain ⟨i0, hif, hz0, hz1, hz2⟩ := info_parts info_w16
  obtain ⟨N, hN⟩ : ∃ N, N = min lp.length 80 := ⟨_, rfl⟩
  have hmin : ∀ w, (Builtin.min_ #[3, 3] 3 #[.int .i64 (lp.length : Int), .int .i64 80]).run Try.prog w = .ok (.int .i64 (N : Int)) w := fun w => run_min2 w _ _ lp.length 80 N hN
  have hN1 : N ≤ lp.length := by omega
  have hN2 : N ≤ 80 := by omega
  have hNI : (N : Int) ≤ (lp.length : Int) := by omega
  have hNc : (N : Int) ≤ (c1 : Int) := by omega
  clear hN
  go_enter Try.func3, Try.ntmps3
  go_wp2_with fail
  refine (bank_any A0 la _ c0 w rfl h0).mono ?_
  rintro e w1 ⟨ga, rfl, o1, b1⟩
  have S1 := Lib.hid (show Sq u16w w1 w1.heap.size (some ⟨ga, 0, none⟩) (bank64 la) from Sq.of_own o1)
  have B1 := Lib.hid b1
  have H2 := Lib.hid (h2.to b1)
  have H1 := Lib.hid (h1.to b1)
  clear o1 b1 h0 h1 h2
  go_wp2_with fail
  refine (bank_any A2 lb _ c2 w1 rfl H2.out).mono ?_
  rintro e w2 ⟨gb, rfl, o2, b2⟩
  have S2 := Lib.hid (show Sq u16w w2 w2.heap.size (some ⟨gb, 0, none⟩) (bank64 lb) from Sq.of_own o2)
  have SA := Lib.hid (S1.out.to b2)
  have H1' := Lib.hid (H1.out.to b2)
  have B2 := Lib.hid (B1.out.trans (b2.mono B1.out.size))
  clear o2 b2 H1 S1 B1 H2
  have HUA := Lib.hid (bank64_u16 hu0)
  have HUB := Lib.hid (bank64_u16 hu2)
  have HLA := Lib.hid (bank64_length la)
  have HLB := Lib.hid (bank64_length lb)
  have HL0 := Lib.hid (show lp.length = lp.length from rfl)
  generalize bank64 la = a at *
  generalize bank64 lb = b at *
  have HE := Lib.hid (own_empty w2 25 .u16)
  go_wp2_with (at_builtin; (refine wpList_append_sq (f := u16w) _ rfl _ _ 22 rfl (fun _ => rfl) w2.heap.size 25 i0 _ _ Try.underlying22 hif hz0 rfl hz1 hz2 (by decide) _ [] rfl HE.out w2.heap.size (some ⟨ga, 0, none⟩) a 64 _ HLA.out rfl (SA.out.alloc (Nat.le_refl _) _) (by simp) (by simp) (by simp) ?_; intro A8 c8 w8 o8 hg8 hb8; have b8 : Below w2.heap.size w2 w8 := (bel_alloc (Below.refl _ _) _).trans hb8; rw [show (([] : List Nat) ++ a).length = 64 from HLA.out] at o8 ⊢; have O8 := Lib.hid (show w8.ownsRow w2.heap.size 25 1 (.slice A8 64 c8) 64 (a.map u16w) from o8); have B8 := Lib.hid b8; obtain ⟨g8, rfl, hgl8, hgh8⟩ := own_some O8.out (by decide); have G8 := Lib.hid hgl8; clear hg8 hb8 o8 hgl8 b8))
  have HQ : Hid (∃ o : List Nat, o.length = 64 ∧ (∀ x ∈ o, x < 65536) ∧ w8.ownsRow w2.heap.size 25 1 (.slice (some ⟨g8, 0, none⟩) 64 c8) 64 (o.map u16w)) := Lib.hid ⟨a, HLA.out, HUA.out, O8.out⟩
  clear O8
  go_loopw [34] (fun i wr => ∃ k : Nat, k ≤ N ∧ i = .int .i64 k ∧ Hid (∃ o : List Nat, o.length = 64 ∧ (∀ x ∈ o, x < 65536) ∧ wr.ownsRow w2.heap.size 25 1 (.slice (some ⟨g8, 0, none⟩) 64 c8) 64 (o.map u16w)) ∧ Below w2.heap.size w2 wr) (fun i _ => N - (intOf i).toNat)
  case atStart => exact ⟨0, by omega, rfl, HQ, B8.out⟩
  case round =>
    clear HQ B8
    obtain ⟨k, hk, rfl, ho, hbe⟩ := hrel
    by_cases hlt : k < N
    · obtain ⟨o, hol, hou, hown⟩ := ho.out
      have hltI : (k : Int) < (N : Int) := by omega
      obtain ⟨g1, o1, x, hA1, hg1, hx, hxc⟩ := (H1'.out.to hbe).at_ (j := k) (by omega)
      obtain rfl := hA1
      have hx8 := hu1 x (List.mem_of_getElem? hx)
      obtain ⟨r, hr⟩ : ∃ r : Nat, (x : Int) % 64 = (r : Int) := ⟨x % 64, by omega⟩
      have hr64 : r < 64 := by omega
      have hrI : (r : Int) < 64 := by omega
      obtain ⟨gb', ob, y, hA2, hg2, hy, hyc⟩ := (S2.out.to hbe).at_ (j := r) (by rw [HLB.out]; exact hr64)
      obtain ⟨rfl, rfl⟩ : gb = gb' ∧ 0 = ob := by simpa using hA2
      rw [Nat.zero_add] at hyc
      have hyu := HUB.out y (List.mem_of_getElem? hy)
      obtain ⟨z, hz⟩ : ∃ z, o[r]? = some z := ⟨o[r], List.getElem?_eq_getElem (by omega)⟩
      have hzc : wr.cell? ⟨g8, r, none⟩ = some (.int .u16 (z : Int)) := by
        have := (Sq.of_own (f := u16w) (l := o) hown) (by omega)
        obtain ⟨b', o', hA, _, hc⟩ := this
        obtain ⟨rfl, rfl⟩ : g8 = b' ∧ 0 = o' := by simpa using hA
        have := hc r z hz
        rwa [Nat.zero_add] at this
      have hzf : wr.frozen? ⟨g8, r, none⟩ = false := own_frozen hown r
      have HO : Hid (∃ o' : List Nat, o'.length = 64 ∧ (∀ x ∈ o', x < 65536) ∧ (wr.setCell ⟨g8, r, none⟩ (.int .u16 (y : Int))).ownsRow w2.heap.size 25 1 (.slice (some ⟨g8, 0, none⟩) 64 c8) 64 (o'.map u16w)) := Lib.hid ⟨o.set r y, by simp [hol], fun v hv => by
        rcases List.mem_or_eq_of_mem_set hv with h | h
        · exact hou v h
        · rw [h]; exact hyu, by
        have := own_setS hown (i := r) (by simp; omega) (.int .u16 (y : Int))
        rw [List.map_set]
        exact this⟩
      have HB : Hid (Below w2.heap.size w2 (wr.setCell ⟨g8, r, none⟩ (.int .u16 (y : Int)))) := Lib.hid (bel_set hbe G8.out _)
      have hn8 : 64 ≤ c8 := (own_nil_c hown).2
      clear hx hy hz hown hou hol ho hbe hyu hA2
      go_wp2
      go_roundw
      case rel => exact ⟨k + 1, by omega, by go_num, HO, HB.out⟩
      case measure => simp [intOf]; omega
    · obtain rfl : k = N := by omega
      obtain ⟨o, hol, hou, hown⟩ := ho.out
      have SO := Lib.hid (show Sq u16w wr wr.heap.size (some ⟨g8, 0, none⟩) o from Sq.of_own hown)
      have SAr := Lib.hid (SA.out.to hbe)
      have BE := Lib.hid (B2.out.trans (hbe.mono B2.out.size))
      have HOL := Lib.hid hol
      have HOU := Lib.hid hou
      have hn8 : 64 ≤ c8 := (own_nil_c hown).2
      clear hown hol hou ho hbe SA S2 H1' HE hu1 HUB HLB
      go_wp2_with fail
      refine (diff_all (some ⟨ga, 0, none⟩) (some ⟨g8, 0, none⟩) a o 64 c8 64 64 wr SAr.out SO.out HLA.out HOL.out hn8).mono ?_
      rintro e w3 ⟨b3, h3⟩
      rw [if_pos ⟨HLA.out, HOL.out⟩] at h3
      obtain ⟨bl, Al, cl, rfl, hpr, howA, hyA⟩ := h3
      have HIV := Lib.hid (iv_ok a o 64)
      have HPR := Lib.hid (hpr.trans (dif_iv HOL.out 64 (Nat.le_refl _)))
      have HOV := Lib.hid (show Bk.over a (prs bl) = o by rw [hpr]; exact over_dif HLA.out HOL.out)
      have hfit : ∀ p ∈ prs bl, 0 ≤ p.1 ∧ p.1 < 64 ∧ Bk.fits p.1 p.2.length = true ∧ ∀ x ∈ p.2, x < 65536 := fun p hp => by
        rw [HPR.out] at hp
        obtain ⟨q, hq, rfl⟩ := List.mem_map.1 hp
        have h5 := HIV.out.ok q hq
        have h6 := h5.lt
        have h7 := h5.le
        have h8 := h5.fit
        have hln : (cutb o q).2.length = q.2 - q.1 := cutb_length (by rw [HOL.out]; exact h7)
        have hc1 : (cutb o q).1 = (q.1 : Int) := rfl
        refine ⟨by omega, by omega, Bk.fits_iff.2 (by rw [hln, hc1]; omega), fun x hx => HOU.out x (List.mem_of_mem_drop (List.mem_of_mem_take hx))⟩
      have LA := Lib.hid (diff_blks (a := a) (b := o) HOL.out HOU.out hpr howA hyA (fun p hp => by rw [← hpr] at hp; exact ⟨(hfit p hp).1, (hfit p hp).2.1, (hfit p hp).2.2.2⟩))
      have HFT := Lib.hid (show Bk.fit (prs bl) = true from Bk.fit_iff.2 (fun p hp => (hfit p hp).2.2.1))
      have HFA := Lib.hid (fun p hp => (hfit p hp).2.2.1)
      obtain ⟨_, _, hcl1, hcl2, hcl3, hcl4⟩ := own_form2 howA
      obtain ⟨rfl, rfl⟩ := (show Al = _ ∧ cl = _ by simpa using hcl1)
      have SA3 := Lib.hid (SAr.out.to b3)
      have SO3 := Lib.hid (SO.out.to b3)
      have B3 := Lib.hid (BE.out.trans (b3.mono BE.out.size))
      obtain ⟨nb, hnb⟩ : ∃ nb, bl.length = nb := ⟨_, rfl⟩
      have HNB := Lib.hid hnb
      rw [hnb] at hcl3 ⊢
      clear b3 hpr howA hyA hcl1 hcl2 hfit SAr SO BE hnb
      go_wp2_with fail
      refine (over_any (some ⟨ga, 0, none⟩) a 64 64 Al bl cl nb w3 SA3.out HLA.out (by simp) HNB.out LA.out (by omega)).mono ?_
      rintro e w4 ⟨b4, h4⟩
      rw [if_pos HLA.out, if_pos HFT.out] at h4
      obtain ⟨A4, c4, rfl, o4⟩ := h4
      rw [HOV.out] at o4
      have SV4 := Lib.hid (show Sq u16w w4 w4.heap.size A4 o from Sq.of_own o4)
      have SA4 := Lib.hid (SA3.out.to b4)
      have SO4 := Lib.hid (SO3.out.to b4)
      have L4 := Lib.hid (LA.out.to b4)
      have B4 := Lib.hid (B3.out.trans (b4.mono B3.out.size))
      clear b4 o4 SA3 SO3 LA B3
      go_wp2_with fail
      refine (diff_all (some ⟨ga, 0, none⟩) (some ⟨ga, 0, none⟩) a a 64 64 64 64 w4 SA4.out SA4.out HLA.out HLA.out (by decide)).mono ?_
      rintro e w5 ⟨b5, h5⟩
      rw [if_pos ⟨HLA.out, HLA.out⟩] at h5
      obtain ⟨bl5, A5, c5, rfl, hpr5, _, _⟩ := h5
      rw [difs_self] at hpr5
      obtain rfl : bl5 = [] := by
        have := congrArg List.length hpr5
        exact List.eq_nil_of_length_eq_zero (by simpa [dif] using this)
      have SV5 := Lib.hid (SV4.out.to b5)
      have SA5 := Lib.hid (SA4.out.to b5)
      have SO5 := Lib.hid (SO4.out.to b5)
      have L5 := Lib.hid (L4.out.to b5)
      have B5 := Lib.hid (B4.out.trans (b5.mono B4.out.size))
      clear b5 hpr5 SV4 SA4 SO4 L4 B4
      simp only [List.length_nil]
      go_wp2_with fail
      refine (lowWords_any A4 (some ⟨g8, 0, none⟩) o o c4 c8 64 64 true w5 HOL.out HOL.out SV5.out SO5.out (by rw [HOL.out]; decide) (decide_eq_true rfl)).mono ?_
      rintro e w6 ⟨rfl, b6⟩
      have SA6 := Lib.hid (SA5.out.to b6)
      have SO6 := Lib.hid (SO5.out.to b6)
      have L6 := Lib.hid (L5.out.to b6)
      have B6 := Lib.hid (B5.out.trans (b6.mono B5.out.size))
      clear b6 SV5 SA5 SO5 L5 B5
      go_wp2
      have HT0 : Hid (∀ q ∈ (iv a o 64).drop 0, (-1 : Int) < (q.1 : Int)) := Lib.hid (fun q _ => by omega)
      go_loopw [16, 89] (fun v i wr => ∃ (k : Nat) (lst : Int), k ≤ nb ∧ i = .int .i64 k ∧ v = .int .i64 lst ∧ -1 ≤ lst ∧ lst ≤ 63 ∧ Hid (∀ q ∈ (iv a o 64).drop k, lst < (q.1 : Int)) ∧ Below w6.heap.size w6 wr) (fun _ i _ => nb - (intOf i).toNat)
      case atStart => exact ⟨0, -1, by omega, rfl, rfl, by omega, by omega, HT0, Below.refl _ _⟩
      case round =>
        clear HT0
        obtain ⟨k, lst, hk, rfl, rfl, hlo, hhi, hdr, hbe⟩ := hrel
        by_cases hlt : k < nb
        · obtain ⟨g1, o1, x, rfl, hg1, hx, hxo, hx0, hx1⟩ := (L6.out.to hbe).at_ (k := k) (by rw [HNB.out]; exact hlt)
          have hltI : (k : Int) < (nb : Int) := by omega
          have hxp := prs_get hx
          rw [HPR.out, List.getElem?_map] at hxp
          obtain ⟨q, hq, hqx⟩ : ∃ q, (iv a o 64)[k]? = some q ∧ cutb o q = x.pr := by simpa using hxp
          have hqo := HIV.out.ok q (List.mem_of_getElem? hq)
          have hlst := hdr.out q (List.mem_of_getElem? (i := 0) (by rw [List.getElem?_drop]; exact hq))
          obtain ⟨s, e⟩ := q
          have hlt2 := hqo.lt
          have hle2 := hqo.le
          have hfit2 := hqo.fit
          have hbeg := hqo.beg
          have hfin := hqo.fin
          have hone := hqo.one
          simp only at hlst hlt2 hle2 hfit2 hbeg hfin hone
          obtain ⟨n, hn⟩ : ∃ n, e = s + n := ⟨e - s, by omega⟩
          subst hn
          obtain ⟨t, ht⟩ : ∃ t, t = s + n - 1 := ⟨_, rfl⟩
          rw [← ht] at hfin
          have hxa : x.a = (s : Int) := (congrArg Prod.fst hqx).symm
          have hxn : x.ws.length = n := by
            have h1 := congrArg (fun p : Bk.Pr => p.2.length) hqx
            have h2 : (cutb o (s, s + n)).2.length = s + n - s := cutb_length (by simp only; rw [HOL.out]; exact hle2)
            have h3 : (cutb o (s, s + n)).2.length = x.ws.length := h1
            omega
          rw [hxa] at hx0
          rw [hxn] at hx1
          have htI : (s : Int) + (n : Int) - 1 = (t : Int) := by omega
          have hsI : (s : Int) < 64 := by omega
          have htI2 : (t : Int) < 64 := by omega
          have hnI : ((n : Int) == 0) = false := beq_eq_false_iff_ne.2 (by omega)
          have hlsI : decide ((s : Int) ≤ lst) = false := decide_eq_false (by omega)
          have c1 : wr.cell? ⟨ga, s, none⟩ = _ := sq_gw (SA6.out.to hbe) (by rw [HLA.out]; omega)
          have c2 : wr.cell? ⟨g8, s, none⟩ = _ := sq_gw (SO6.out.to hbe) (by rw [HOL.out]; omega)
          have c3 : wr.cell? ⟨ga, t, none⟩ = _ := sq_gw (SA6.out.to hbe) (by rw [HLA.out]; omega)
          have c4' : wr.cell? ⟨g8, t, none⟩ = _ := sq_gw (SO6.out.to hbe) (by rw [HOL.out]; omega)
          have hga := sq_lt (SA6.out.to hbe) (by rw [HLA.out]; omega)
          have hg8 := sq_lt (SO6.out.to hbe) (by rw [HOL.out]; omega)
          have e1 : (((gw a s : Nat) : Int) == ((gw o s : Nat) : Int)) = false := beq_eq_false_iff_ne.2 (by omega)
          have e2 : (((gw a t : Nat) : Int) == ((gw o t : Nat) : Int)) = false := beq_eq_false_iff_ne.2 (by omega)
          have kf := Lib.hid (fun W => fits_any (s : Int) n x.c x.A true W (by omega) (by omega) (by omega) (Bk.fits_iff.2 (by omega)))
          have HONE := Lib.hid hone
          have HNX : Hid (∀ q ∈ (iv a o 64).drop (k + 1), (t : Int) < (q.1 : Int)) := Lib.hid (fun q hq' => by
            obtain ⟨j, hj⟩ := List.getElem?_of_mem hq'
            rw [List.getElem?_drop] at hj
            have := List.pairwise_iff_getElem.1 HIV.out.asc k (k + 1 + j) (List.getElem?_eq_some_iff.1 hq).1 (List.getElem?_eq_some_iff.1 hj).1 (by omega)
            rw [(List.getElem?_eq_some_iff.1 hq).2, (List.getElem?_eq_some_iff.1 hj).2] at this
            simp only at this
            omega)
          have HBE := Lib.hid hbe
          generalize gw a s = va at *
          generalize gw o s = vo at *
          generalize gw a t = vat at *
          generalize gw o t = vot at *
          have HTT := Lib.hid ht
          clear hx hxo hxp hq hqx hqo hbeg hfin hone hxa hxn hbe hdr ht hlst
          go_wp2
          refine wp_region_lat (by kernel_rfl) (by kernel_rfl) ?_
          repeat (go_big_quiet_step (fail))
          go_big_quiet_step (exact later_new (kf.out _))
          repeat (go_big_quiet_step (fail))
          refine wpQuiet_nil ?_
          rintro _ ⟨x3, rfl⟩
          have hz_x3 := x3.bel.size
          try simp at hz_x3
          go_wp2
          have d0 : x3.val.cell? ⟨wr.heap.size, 0, none⟩ = some (.int .i64 (s : Int)) := (x3.bel.cell (p := ⟨wr.heap.size, 0, none⟩) (by simp)).trans (by simp [go_sem])
          have hg6 : wr.heap.size < x3.val.heap.size := by have := x3.bel.size; simp at this; omega
          have BW0 : Below wr.heap.size wr x3.val := (bel_alloc (Below.refl _ _) _).trans (x3.bel.mono (by simp))
          have SAW := Lib.hid ((SA6.out.to HBE.out).to BW0)
          have SOW := Lib.hid ((SO6.out.to HBE.out).to BW0)
          have BEW := Lib.hid (HBE.out.trans (BW0.mono HBE.out.size))
          clear BW0 c1 c2 c3 c4' hga hg8
          generalize wr.heap.size = g6 at *
          generalize x3.val = W0 at *
          clear x3
          have D0 := Lib.hid d0
          clear d0
          go_loopw [20] (fun i wr => ∃ j : Nat, 1 ≤ j ∧ j ≤ n ∧ i = .int .i64 j ∧ Below W0.heap.size W0 wr) (fun i _ => n - (intOf i).toNat)
          case atStart => exact ⟨1, by omega, by omega, rfl, Below.refl _ _⟩
          case round =>
            obtain ⟨j, hj1, hjn, rfl, hbe⟩ := hrel
            have d0 : wr.cell? ⟨g6, 0, none⟩ = _ := (hbe.cell (p := ⟨g6, 0, none⟩) hg6).trans D0.out
            have hg6' : g6 < wr.heap.size := Nat.lt_of_lt_of_le hg6 hbe.size
            have hga := sq_lt (SAW.out.to hbe) (by rw [HLA.out]; omega)
            have hg8 := sq_lt (SOW.out.to hbe) (by rw [HOL.out]; omega)
            have HBE2 := Lib.hid hbe
            by_cases hlj : j < n
            · have hljI : (j : Int) < (n : Int) := by omega
              obtain ⟨u, hu⟩ : ∃ u : Nat, u = s + j := ⟨_, rfl⟩
              obtain ⟨v, hv⟩ : ∃ v : Nat, v + 1 = u := ⟨s + j - 1, by omega⟩
              have huI : (s : Int) + (j : Int) = (u : Int) := by omega
              have hvI : (u : Int) - 1 = (v : Int) := by omega
              have hu64 : (u : Int) < 64 := by omega
              have hv64 : (v : Int) < 64 := by omega
              have hu63 : u < 64 := by omega
              have hv63 : v < 64 := by omega
              have c1 : wr.cell? ⟨ga, u, none⟩ = _ := sq_gw (SAW.out.to hbe) (by rw [HLA.out]; omega)
              have c2 : wr.cell? ⟨g8, u, none⟩ = _ := sq_gw (SOW.out.to hbe) (by rw [HOL.out]; omega)
              have c3 : wr.cell? ⟨ga, v, none⟩ = _ := sq_gw (SAW.out.to hbe) (by rw [HLA.out]; omega)
              have c4' : wr.cell? ⟨g8, v, none⟩ = _ := sq_gw (SOW.out.to hbe) (by rw [HOL.out]; omega)
              have hno : gw a v = gw o v → gw a u ≠ gw o u := fun h => by
                have := HONE.out v (by omega) (by omega) h
                rwa [hv] at this
              clear hbe
              by_cases hd : gw a u = gw o u
              · have hd2 : gw a v ≠ gw o v := fun h => hno h hd
                have t1 : (((gw a u : Nat) : Int) == ((gw o u : Nat) : Int)) = true := by rw [hd]; exact beq_self_eq_true _
                have t2 : (((gw a v : Nat) : Int) == ((gw o v : Nat) : Int)) = false := beq_eq_false_iff_ne.2 (by omega)
                generalize gw a u = va' at *
                generalize gw o u = vo' at *
                generalize gw a v = vat' at *
                generalize gw o v = vot' at *
                clear hd hd2 hno hu hv
                go_wp2
                refine wp_region_lat (by kernel_rfl) (by kernel_rfl) ?_
                repeat (go_big_quiet_step (fail))
                refine wpQuiet_nil ?_
                rintro _ ⟨x4, rfl⟩
                have hz_x4 := x4.bel.size
                try simp at hz_x4
                go_wp2
                go_roundw
                case rel => exact ⟨j + 1, by omega, by omega, by go_num, HBE2.out.trans (x4.bel.mono HBE2.out.size)⟩
                case measure => simp [intOf]; omega
              · have t1 : (((gw a u : Nat) : Int) == ((gw o u : Nat) : Int)) = false := beq_eq_false_iff_ne.2 (by omega)
                generalize gw a u = va' at *
                generalize gw o u = vo' at *
                clear hd hno hu hv c3 c4'
                go_wp2
                refine wp_region_lat (by kernel_rfl) (by kernel_rfl) ?_
                repeat (go_big_quiet_step (fail))
                refine wpQuiet_nil ?_
                rintro _ ⟨x4, rfl⟩
                have hz_x4 := x4.bel.size
                try simp at hz_x4
                go_wp2
                go_roundw
                case rel => exact ⟨j + 1, by omega, by omega, by go_num, HBE2.out.trans (x4.bel.mono HBE2.out.size)⟩
                case measure => simp [intOf]; omega
            · obtain rfl : j = n := by omega
              have HBE3 := Lib.hid (BEW.out.trans (hbe.mono BEW.out.size))
              clear hbe
              go_wp2
              go_roundw
              case rel => exact ⟨k + 1, t, by omega, by go_num, rfl, by omega, by omega, HNX, HBE3.out⟩
              case measure => simp [intOf]; omega
        · obtain rfl : k = nb := by omega
          have HBE := Lib.hid (B6.out.trans (hbe.mono B6.out.size))
          clear hbe
          go_wp2_with fail
          refine (awake_any _).mono ?_
          rintro e w7 ⟨rfl, b7⟩
          have B7 := Lib.hid (HBE.out.trans (b7.mono HBE.out.size))
          clear b7
          go_wp2
          go_ret
          exact ⟨rfl, B7.out⟩
end Go.Proofs.Ytkilpiiljpeamaa
