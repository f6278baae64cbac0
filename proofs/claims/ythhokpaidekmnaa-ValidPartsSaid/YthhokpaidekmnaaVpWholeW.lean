/- Layer 15: whole, of ValidParts. -/
import Derived.Test.YthhokpaidekmnaaVpMem
import Derived.Test.YthhokpaidekmnaaVdChk
import Derived.Test.YthhokpaidekmnaaVdStep
import Derived.Test.YthhokpaidekmnaaHeld
import Derived.Deep.DeepCutAuto
namespace Go.Proofs.Ythhokpaidekmnaa
open Go.RowKit
set_option linter.unusedVariables false
set_option linter.unusedSimpArgs false
set_option maxRecDepth 100000
attribute [local go_sem] Later.cell Later.frozen setCell_twice
attribute [local go_sem high] sliced_zero run_slcd
attribute [local irreducible] slcd
/-- the outer loop: all from part j on is turned round; gb the block of 'back' -/
structure Back (W0 wr : World) (gb : Nat) (nm : ByteArray) (lb : List Pb) (j k : Nat) (A : Option Addr) (c : Nat) (pl : List Pa) : Prop where
 map : pl.map Pa.b = Vd.backP (lb.drop j)
 own : PL wr (gb + 1) A k c pl
 var : RowAt wr gb 26 [.string nm, .slice A k c]
 bel : Below gb W0 wr
structure BackS (wq wv : World) (gq : Nat) (slave : ByteArray) (sets : List St) (b k : Nat) (A : Option Addr) (c : Nat) (sl : List St) : Prop where
 eq : sl = (sets.drop b).reverse
 row : SL wv (gq + 1) A k c sl
 var : RowAt wv gq 46 [.string slave, .int .i64 0, .slice A k c]
 bel : Below gq wq wv
 size : gq < wv.heap.size
theorem drop_is {α : Type} {l : List α} {b : Nat} {s : α} (hs : l[b]? = some s) : l.drop b = s :: l.drop (b + 1) := by
 obtain ⟨hk, hx⟩ := List.getElem?_eq_some_iff.1 hs
 rw [List.drop_eq_getElem_cons hk, hx]
theorem BackS.step {wq wv w3 : World} {gq b k2 c2 c3 : Nat} {slave : ByteArray} {sets sl : List St} {A2 A3 : Option Addr} {s : St} (h : BackS wq wv gq slave sets (b + 1) k2 A2 c2 sl) (hs : sets[b]? = some s)
  (ho : SL w3 (gq + 1) A3 (k2 + 1) c3 (sl ++ [s])) (hr : RowAt w3 gq 46 [.string slave, .int .i64 0, .slice A2 k2 c2]) (hb : Below gq wv w3) :
  BackS wq (w3.setCell ⟨gq, 2, none⟩ (.slice A3 (k2 + 1) c3)) gq slave sets b (k2 + 1) A3 c3 (sl ++ [s]) := by
 have k : Only gq w3 (w3.setCell ⟨gq, 2, none⟩ (.slice A3 (k2 + 1) c3)) := (Only.refl gq w3).set _
 exact ⟨by rw [drop_is hs, List.reverse_cons, h.eq], ho.only k (by omega), hr.set 2 _, (h.bel.trans hb).trans (k.below (Nat.le_refl _)), by rw [k.size]; exact hr.lt⟩
theorem set_lit {w W : World} {s : St} {g : Nat} (hg : w.heap.size = g) (hb : Below (w.alloc (.cells (stF s).toArray 48)).heap.size (w.alloc (.cells (stF s).toArray 48)) W) : Recs stF 5 W W.heap.size (some ⟨g, 0, none⟩) [s] := by
 have h1 : Recs stF 5 (w.alloc (.cells (stF s).toArray 48)) (w.alloc (.cells (stF s).toArray 48)).heap.size (some ⟨g, 0, none⟩) [s] := Recs.lits stF_length (by decide) w [s] _ _ _ _ (by simp) hg.symm (by simp; omega)
 exact (h1.below hb).more hb.size
theorem Back.step {W0 wr w4 : World} {gb j k c1 c2 c4 : Nat} {nm : ByteArray} {lb : List Pb} {A1 A2 A4 : Option Addr} {pl : List Pa} {sl : List St} {p : Pb} (h : Back W0 wr gb nm lb (j + 1) k A1 c1 pl) (hp : lb[j]? = some p) (hsl : sl = p.sets.reverse)
  (ho : PL w4 (gb + 1) A4 (k + 1) c4 (pl ++ [⟨p.slave, 0, sl, A2, c2⟩])) (hr : RowAt w4 gb 26 [.string nm, .slice A1 k c1]) (hb : Below gb wr w4) :
  Back W0 (w4.setCell ⟨gb, 1, none⟩ (.slice A4 (k + 1) c4)) gb nm lb j (k + 1) A4 c4 (pl ++ [⟨p.slave, 0, sl, A2, c2⟩]) := by
 have kk : Only gb w4 (w4.setCell ⟨gb, 1, none⟩ (.slice A4 (k + 1) c4)) := (Only.refl gb w4).set _
 refine ⟨?_, ho.only kk (by omega), hr.set 1 _, (h.bel.trans hb).trans (kk.below (Nat.le_refl _))⟩
 rw [drop_is hp, Vd.backP_cons, List.map_append, h.map]
 subst hsl
 rfl
set_option maxHeartbeats 8000000 in
theorem whole_any (A : Option Addr) (l : List Dv) (n c : Nat) (nm : ByteArray) (B : Option Addr) (lp : List Pa) (np cp : Nat) (at_ of_ : Nat) (w : World) (hn : l.length = n) (h : Tab w w.heap.size A l) (hs : Shp A n c)
  (hnp : lp.length = np) (hP : Pas w w.heap.size B lp) (hsp : Shp B np cp) (ha : at_ < 256) (ho : of_ < 256) (hok : (Vd.chk l nm (lp.map Pa.b)).1 = 0) :
  Calls Try.prog 19 #[.slice A n c, .agg #[.string nm, .slice B np cp], .int .i64 (at_ : Int), .int .i64 (of_ : Int)] w fun e w' => e = .returned (.bool true) ∧ Below w.heap.size w w' := by
 have HN := Lib.hid hn
 have HH := Lib.hid h
 have HNP := Lib.hid hnp
 have HPP := Lib.hid hP
 have HOKK := Lib.hid hok
 have hlep : np ≤ cp := hsp.le
 have CK := Lib.hid (fun (A1 : Option Addr) (pl : List Pa) (n1 c1 : Nat) (x : World) (hl : pl.length = n1) (hx : Below w.heap.size w x) (hp : Pas x x.heap.size A1 pl) (h1 : Shp A1 n1 c1) => check_any A l n c nm A1 pl n1 c1 x hn (h.to hx) hs hl hp h1)
 have hr : Vd.rightB nm (lp.map Pa.b) = true := ((Vd.chk_ok _ _ _).1 hok).2.1
 unfold Vd.rightB at hr
 rw [Bool.and_eq_true, Bool.and_eq_true, decide_eq_true_iff, List.length_map, List.all_eq_true] at hr
 have hn8 : np ≤ 8 := by rw [← hnp]; exact hr.1.2
 have HM64 : Hid (∀ p ∈ lp, p.sets.length ≤ 64) := Lib.hid (fun p hp => by
  have h2 := hr.2 p.b (List.mem_map.2 ⟨p, hp, rfl⟩)
  unfold Vd.rightPb at h2
  rw [Bool.and_eq_true, Bool.and_eq_true, decide_eq_true_iff] at h2
  exact h2.1.2)
 clear hn h hs hnp hP hsp hok hr
 obtain ⟨iS, hifS, hs0, hs1, hs2⟩ := info_three info_set
 obtain ⟨iP, hifP, hp0, hp1, hp2'⟩ := info_three info_part
 go_enter Try.func19, Try.ntmps19
 go_upto_region 2 with fail
 obtain ⟨W0, hW0⟩ : ∃ w_q_, w_q_ = (w.alloc (.cells #[.string nm, .slice B np cp] 26)).alloc (.cells #[.string nm, .slice none 0 0] 26) := ⟨_, rfl⟩
 rw [← hW0]
 have hb0 : Below w.heap.size w W0 := by rw [hW0]; exact belo
 have hz0 : w.heap.size + 2 ≤ W0.heap.size := by rw [hW0]; simp
 have HR0 : Hid (RowAt W0 w.heap.size 26 [.string nm, .slice B np cp]) := Lib.hid (by rw [hW0]; exact (RowAt.new' w w.heap.size _ _ rfl).alloc _)
 have HV0 : Hid (RowAt W0 (w.heap.size + 1) 26 [.string nm, .slice none 0 0]) := Lib.hid (by rw [hW0]; exact RowAt.new' _ _ _ _ (by simp))
 have HB0 := Lib.hid hb0
 have ra1 : W0.cell? ⟨w.heap.size, 1, none⟩ = some (.slice B np cp) := HR0.out.cells 1
 clear hW0 hb0
 go_wp2
 go_loopw [10] (fun v10 wr => ∃ (ii : Int) (j k : Nat) (A1 : Option Addr) (c1 : Nat) (pl : List Pa), ii + 1 = (j : Int) ∧ j + k = np ∧ v10 = .int .i64 ii ∧ Hid (Back W0 wr (w.heap.size + 1) nm (lp.map Pa.b) j k A1 c1 pl)) (fun i _ => (RowKit.intOf i + 1).toNat)
 case atStart => exact ⟨(np : Int) - 1, np, 0, none, 0, [], by omega, by omega, rfl, Lib.hid ⟨by rw [List.drop_eq_nil_of_le (by rw [List.length_map, HNP.out]; exact Nat.le_refl _)]; rfl, PL.nil _ _, HV0.out, Below.refl _ _⟩⟩
 case round =>
  clear ra1
  rename World => wr
  obtain ⟨ii, j, k, A1, c1, pl, hii, hjk, rfl, HI⟩ := hrel
  have hbr := HI.out.bel
  have hbw : Below w.heap.size w wr := HB0.out.trans (hbr.mono (by omega))
  have hzr := hbr.size
  have HRr := Lib.hid (HR0.out.below hbr (by omega))
  have ra1 : wr.cell? ⟨w.heap.size, 1, none⟩ = some (.slice B np cp) := HRr.out.cells 1
  rcases Nat.eq_zero_or_pos j with hj0 | hjp
  ·have hneg : decide (0 ≤ ii) = false := decide_eq_false (by omega)
   obtain rfl : k = np := by omega
   have HPB : Hid (pl.map Pa.b = Vd.backP (lp.map Pa.b)) := Lib.hid (by have h1 := HI.out.map; rw [hj0, List.drop_zero] at h1; exact h1)
   have HC1 : Hid ((Vd.chk l nm (pl.map Pa.b)).1 = 0) := Lib.hid (by rw [HPB.out]; exact Vd.back_ok HOKK.out)
   have HVr := Lib.hid HI.out.var
   have HPr := Lib.hid HI.out.own
   have HBr := Lib.hid hbw
   have hgb : w.heap.size + 1 < wr.heap.size := HVr.out.lt
   have HM : Hid (∀ p ∈ pl, p.sets.length ≤ 64) := Lib.hid (fun p hp => by
    have h1 : p.b ∈ Vd.backP (lp.map Pa.b) := by rw [← HPB.out]; exact List.mem_map.2 ⟨p, hp, rfl⟩
    unfold Vd.backP at h1
    rw [List.mem_reverse, List.mem_map] at h1
    obtain ⟨q, hq, he⟩ := h1
    obtain ⟨x, hx, rfl⟩ := List.mem_map.1 hq
    have h2 := HM64.out x hx
    have h3 : (Vd.turnB x.b).sets.length = p.sets.length := by rw [he]; rfl
    rw [← h3]
    unfold Vd.turnB
    dsimp only
    rw [List.length_reverse]
    exact h2)
   clear ra1 hj0 hii hjk HI HR0 HRr hzr hbr hz0 HV0 HB0 HM64 HOKK
   obtain ⟨gb, hgbe⟩ : ∃ g, w.heap.size + 1 = g := ⟨_, rfl⟩
   have hgw : w.heap.size < gb := by omega
   rw [hgbe] at HVr HPr hgb ⊢
   clear hgbe
   have CK1 := Lib.hid (CK.out A1 pl k c1 wr HPr.out.len HBr.out HPr.out.pas HPr.out.shp)
   obtain ⟨⟨s1, s2⟩, hc1⟩ : ∃ r, Vd.chk l nm (pl.map Pa.b) = r := ⟨_, rfl⟩
   rw [Vd.check_b, hc1] at CK1
   obtain rfl : s1 = 0 := by have h1 := HC1.out; rw [hc1] at h1; exact h1
   clear hc1
   have rb0 : wr.cell? ⟨gb, 0, none⟩ = some (.string nm) := HVr.out.cells 0
   have rb1 : wr.cell? ⟨gb, 1, none⟩ = some (.slice A1 k c1) := HVr.out.cells 1
   have kfl : ∀ W, (Instr.field 32 (faultV (0, s2)) 0).run Try.prog W = .ok (.int .i64 0) W := fun W => fault_fld0 _ _ W
   go_wp2_with fail
   with_reducible refine (CK1.out).mono ?_
   rintro e_x1 w_x1 ⟨rfl, hb_x1⟩
   obtain ⟨x1, rfl⟩ := later_is hb_x1
   clear hb_x1
   have hz_x1 := x1.bel.size
   try simp at hz_x1
   have HV1 := Lib.hid (HVr.out.to x1.bel)
   have HP1 := Lib.hid (HPr.out.to x1.bel)
   have hb1 : Below w.heap.size w x1.val := HBr.out.trans (x1.bel.mono HBr.out.size)
   have hgb1 : gb < x1.val.heap.size := HV1.out.lt
   clear rb0 rb1
   have rb0 : x1.val.cell? ⟨gb, 0, none⟩ = some (.string nm) := HV1.out.cells 0
   have rb1 : x1.val.cell? ⟨gb, 1, none⟩ = some (.slice A1 k c1) := HV1.out.cells 1
   rcases Nat.eq_zero_or_pos k with hk0 | hkp
   ·have gk : ((k : Int) == 0) = true := by simp [hk0]
    clear hk0
    go_wp2
    go_ret
    exact ⟨rfl, hb1⟩
   have gk : ((k : Int) == 0) = false := beq_eq_false_iff_ne.2 (by omega)
   obtain ⟨i, hi⟩ : ∃ i, at_ % k = i := ⟨_, rfl⟩
   have hik : i < k := by rw [← hi]; exact Nat.mod_lt _ hkp
   have hiI : ((at_ : Int)).tmod (k : Int) = (i : Int) := by rw [← hi]; rfl
   have hikI : (i : Int) < (k : Int) := by omega
   have h0i : (0 : Int) ≤ (i : Int) := by omega
   clear hi
   obtain ⟨g1, o1, p, hA1, hg, hp, hok, d0, d1, d2⟩ := HP1.out.pas.at_ (k := i) (by rw [HP1.out.len]; exact hik)
   obtain ⟨hlow, _, ho1⟩ := own_at_s HP1.out.own _ hA1
   obtain rfl : o1 = 0 := congrArg Addr.off ho1
   dsimp only at hlow
   subst hA1
   rw [Nat.zero_add] at d0 d1 d2
   have hgl : g1 < x1.val.heap.size := hg
   have hm64 := HM.out p (List.mem_of_getElem? hp)
   have HOK := Lib.hid hok
   have HPi := Lib.hid hp
   have HOFFp := Lib.hid (HP1.out.off p (List.mem_of_getElem? hp))
   obtain ⟨slave, line, sets, PA, pc⟩ := p
   obtain ⟨m, hm⟩ : ∃ m, sets.length = m := ⟨_, rfl⟩
   have HMM := Lib.hid hm
   have hSp := hok.shp
   dsimp only at d0 d1 d2 hm64 hSp
   rw [hm] at d2 hm64 hSp
   clear hp hg hok hm ho1
   rcases Nat.eq_zero_or_pos m with hm0 | hmp
   ·have gm : decide (0 < m) = false := decide_eq_false (by omega)
    have gmn : ¬ 0 < m := by omega
    clear hm0
    go_upto_region 22 with fail
    obtain ⟨wz, hwz⟩ : ∃ W, x1.val = W := ⟨_, rfl⟩
    have HVz : Hid (RowAt wz gb 26 [.string nm, .slice (some ⟨g1, 0, none⟩) k c1]) := Lib.hid (by rw [← hwz]; exact HV1.out)
    obtain ⟨plz, HPz, HLz, HCz, HWz⟩ : ∃ plz : List Pa, Hid (Pas wz wz.heap.size (some ⟨g1, 0, none⟩) plz) ∧ Hid (plz.length = k) ∧ Hid ((Vd.chk l nm (plz.map Pa.b)).1 = 0) ∧ Hid (∀ p ∈ plz, ∀ a, p.A = some a → gb < a.block) :=
     ⟨pl, Lib.hid (by rw [← hwz]; exact HP1.out.pas), Lib.hid HP1.out.len, HC1, Lib.hid (fun p hp a ha => HP1.out.low p hp a ha)⟩
    have HBz : Hid (Below w.heap.size w wz) := Lib.hid (by rw [← hwz]; exact hb1)
    rw [hwz]
    have hgbz : gb < wz.heap.size := HVz.out.lt
    have hg1z : g1 < wz.heap.size := by rw [← hwz]; exact hgl
    have HSz := Lib.hid HP1.out.shp
    clear hwz HV1 HP1 hb1 hgb1 rb0 rb1 d0 d1 d2 hgl
    have hK1e : ∃ q, i + 1 = q := ⟨_, rfl⟩
    obtain ⟨K1, hK1⟩ := hK1e
    have HK1 := Lib.hid hK1
    have hK1I : (i : Int) + 1 = (K1 : Int) := by omega
    have hwrap : IntKind.i64.wrap (K1 : Int) = (K1 : Int) := IntWalk.i64_in _ (by omega)
    have hK1m : (K1 : Int) ≤ (k : Int) := by omega
    have hK10 : (0 : Int) ≤ (K1 : Int) := by omega
    have hkpc : (i : Int) ≤ (c1 : Int) := by have := HSz.out.le; omega
    obtain ⟨A5, hA5, hR5, hN5⟩ := recs_from HPz.out.rc HLz.out (k := K1) (by omega) HSz.out
    have HA5 := Lib.hid hA5
    have HR5 := Lib.hid hR5
    have HN5 := Lib.hid hN5
    have LTz : Hid ((plz.take i).length = i) := Lib.hid (by rw [List.length_take, HLz.out]; omega)
    have LDz : Hid ((plz.drop K1).length = k - K1) := Lib.hid (by rw [List.length_drop, HLz.out])
    have hMe : ∃ q, i + (k - K1) = q := ⟨_, rfl⟩
    obtain ⟨M, hM⟩ := hMe
    have hM8 : M ≤ 8 := by omega
    have HME := Lib.hid hM
    have HLO : Hid ((Vd.out plz i).length = M) := Lib.hid (by
     unfold Vd.out
     rw [List.length_append, LTz.out, HK1.out, LDz.out, HME.out])
    obtain ⟨⟨s1, s2⟩, hc7⟩ : ∃ r, Vd.chk l nm ((Vd.out plz i).map Pa.b) = r := ⟨_, rfl⟩
    obtain rfl : s1 = 0 := by
     have h1 := Vd.out_ok HCz.out i
     have h2 : (Vd.out plz i).map Pa.b = Vd.out (plz.map Pa.b) i := by
      unfold Vd.out
      rw [List.map_append, List.map_take, List.map_drop]
     rw [← h2, hc7] at h1
     exact h1
    have HC7 := Lib.hid hc7
    have kfl7 : ∀ W, (Instr.field 32 (faultV (0, s2)) 0).run Try.prog W = .ok (.int .i64 0) W := fun W => fault_fld0 _ _ W
    have hgye : ∃ g, wz.heap.size = g := ⟨_, rfl⟩
    obtain ⟨gy, hgy⟩ := hgye
    have HGY := Lib.hid hgy
    have rb1 : wz.cell? ⟨gb, 1, none⟩ = some (.slice (some ⟨g1, 0, none⟩) k c1) := HVz.out.cells 1
    clear hK1 hA5 hR5 hN5 hM hc7 hgy
    refine wp_region_held_drew (S := (fun _ => True)) (by kernel_rfl) ?_ (fun hHeld => ?_)
    ·trivial
    refine takeD (i := 1) (oi := _) (v := ?vv1) (d := some 114) rfl (by kernel_rfl) (by kernel_rfl) (by kernel_rfl) (by kernel_rfl) (fun _ _ _ h => h) (Or.inl ⟨by kernel_rfl, ?_⟩) (by assumption) ?_
    rotate_left 1
    ·intro W_ hSw; (try dsimp only at hSw); go_simp; (first | done | with_reducible rfl)
    try simp only [Act.put, List.setIfInBounds_toArray, List.set_cons_zero, List.set_cons_succ]
    refine takeD (i := 3) (oi := _) (v := ?vv2) (d := some 116) rfl (by kernel_rfl) (by kernel_rfl) (by kernel_rfl) (by kernel_rfl) (fun _ _ _ h => h) (Or.inl ⟨by kernel_rfl, ?_⟩) (by assumption) ?_
    rotate_left 1
    ·intro W_ hSw; (try dsimp only at hSw); go_simp; (first | done | with_reducible rfl)
    try simp only [Act.put, List.setIfInBounds_toArray, List.set_cons_zero, List.set_cons_succ]
    refine takeD (i := 6) (oi := _) (v := ?vv3) (d := some 119) rfl (by kernel_rfl) (by kernel_rfl) (by kernel_rfl) (by kernel_rfl) (fun _ _ _ h => h) (Or.inl ⟨by kernel_rfl, ?_⟩) (by assumption) ?_
    rotate_left 1
    ·intro W_ hSw; (try dsimp only at hSw); go_simp; (first | done | with_reducible rfl)
    try simp only [Act.put, List.setIfInBounds_toArray, List.set_cons_zero, List.set_cons_succ]
    refine takeD (i := 8) (oi := _) (v := ?vv4) (d := some 121) rfl (by kernel_rfl) (by kernel_rfl) (by kernel_rfl) (by kernel_rfl) (fun _ _ _ h => h) (Or.inl ⟨by kernel_rfl, ?_⟩) (by assumption) ?_
    rotate_left 1
    ·intro W_ hSw; (try dsimp only at hSw); go_simp; (first | done | with_reducible rfl)
    try simp only [Act.put, List.setIfInBounds_toArray, List.set_cons_zero, List.set_cons_succ]
    refine takeD (i := 9) (oi := _) (v := ?vv5) (d := some 122) rfl (by kernel_rfl) (by kernel_rfl) (by kernel_rfl) (by kernel_rfl) (fun _ _ _ h => h) (Or.inl ⟨by kernel_rfl, ?_⟩) (by assumption) ?_
    rotate_left 1
    ·intro W_ hSw; (try dsimp only at hSw); go_simp; (first | done | with_reducible rfl)
    try simp only [Act.put, List.setIfInBounds_toArray, List.set_cons_zero, List.set_cons_succ]
    refine wpAnyH_ready (rs := [0, 2, 7]) (by kernel_rfl) (by simp) ?_
    refine AllReadyH.cons (o := _) rfl (fun K hK => ?_) (AllReadyH.cons (o := _) rfl (fun K hK => ?_) (AllReadyH.cons (o := _) rfl (fun K hK => ?_) AllReadyH.nil))
    ·go_simp
     refine hK.out _ _ ?_ (fun hHeld => ?_)
     ·trivial
     clear hK K
     try simp only [Act.put]
     try simp only [List.setIfInBounds_toArray]
     try simp only [List.set_cons_succ]
     try simp only [List.set_cons_zero]
     obtain ⟨Wc, hWc⟩ : ∃ W, (wz.alloc (.cells #[] 46)).drew = W := ⟨_, rfl⟩
     have BC : Hid (Below wz.heap.size wz Wc) := Lib.hid (by rw [← hWc]; exact (bel_alloc (Below.refl _ _) _).drew)
     have OE : Hid (Wc.ownsRow wz.heap.size 46 3 (.slice (some ⟨gy, 0, none⟩) 0 0) 0 (([] : List Pa).flatMap paF)) := Lib.hid (by
      rw [← hWc, ← HGY.out]
      exact own_below (own_recs_empty paF wz wz.heap.size 46 3 _ rfl (Nat.le_refl _)) (Below.refl _ _).drew)
     have rc1 : Wc.cell? ⟨gb, 1, none⟩ = some (.slice (some ⟨g1, 0, none⟩) k c1) := (HVz.out.to BC.out).cells 1
     rw [hWc, HGY.out]
     clear hWc
     refine wpAnyH_ready (rs := [2, 7]) (by kernel_rfl) (by simp) ?_
     refine AllReadyH.cons (o := _) rfl (fun K hK => ?_) (AllReadyH.cons (o := _) rfl (fun K hK => ?_) AllReadyH.nil)
     ·go_simp
      refine hK.out _ _ ?_ (fun hHeld => ?_)
      ·trivial
      clear hK K
      try simp only [Act.put]
      try simp only [List.setIfInBounds_toArray]
      try simp only [List.set_cons_succ]
      try simp only [List.set_cons_zero]
      refine takeD (i := 4) (oi := _) (v := ?vv6) (d := some 117) rfl (by kernel_rfl) (by kernel_rfl) (by kernel_rfl) (by kernel_rfl) (fun _ _ _ h => h) (Or.inl ⟨by kernel_rfl, ?_⟩) (by assumption) ?_
      rotate_left 1
      ·intro W_ hSw; (try dsimp only at hSw); go_simp; (first | done | with_reducible rfl)
      try simp only [Act.put, List.setIfInBounds_toArray, List.set_cons_zero, List.set_cons_succ]
      refine wpAnyH_ready (rs := [5, 7]) (by kernel_rfl) (by simp) ?_
      refine AllReadyH.cons (o := _) rfl (fun K hK => ?_) (AllReadyH.cons (o := _) rfl (fun K hK => ?_) AllReadyH.nil)
      ·(refine step_append_rn _ rfl (.tmp 113) (.tmp 117) 24 rfl paF_length (by decide) paF_one wz.heap.size 46 iP _ 48 Try.underlying24 hifP hp0 hp1 hp2' (by decide) rfl (some ⟨gy, 0, none⟩) 0 0 [] rfl rfl OE.out Wc.heap.size (some ⟨g1, 0, none⟩) (plz.take i) c1 i LTz.out rfl ((HPz.out.rc.below BC.out).more BC.out.size |>.take i) (by simp) i (by omega) (by omega) BC.out.size ?_)
       intro A4 c4 w4 o4 b4
       rw [List.nil_append] at o4
       have B4 : Hid (Below wz.heap.size wz w4) := Lib.hid (BC.out.trans b4)
       have O4 := Lib.hid o4
       refine hK.out _ _ ?_ (fun hHeld => ?_)
       ·trivial
       clear hK K o4 b4
       try simp only [Act.put, List.setIfInBounds_toArray, List.set_cons_zero, List.set_cons_succ]
       have r41 : w4.cell? ⟨gb, 1, none⟩ = some (.slice (some ⟨g1, 0, none⟩) k c1) := (HVz.out.to B4.out).cells 1
       refine wpAnyH_ready (rs := [7]) (by kernel_rfl) (by simp) ?_
       refine AllReadyH.cons (o := _) rfl (fun K hK => ?_) AllReadyH.nil
       go_simp
       refine hK.out _ _ ?_ (fun hHeld => ?_)
       ·trivial
       clear hK K
       try simp only [Act.put]
       try simp only [List.setIfInBounds_toArray]
       try simp only [List.set_cons_succ]
       try simp only [List.set_cons_zero]
       refine takeD (i := 10) (oi := _) (v := ?vv7) (d := some 123) rfl (by kernel_rfl) (by kernel_rfl) (by kernel_rfl) (by kernel_rfl) (fun _ _ _ h => h) (Or.inl ⟨by kernel_rfl, ?_⟩) (by assumption) ?_
       rotate_left 1
       ·intro W_ hSw; (try dsimp only at hSw); go_simp; (first | done | with_reducible rfl)
       try simp only [Act.put, List.setIfInBounds_toArray, List.set_cons_zero, List.set_cons_succ]
       rw [HA5.out]
       refine wpAnyH_ready (rs := [11]) (by kernel_rfl) (by simp) ?_
       refine AllReadyH.cons (o := _) rfl (fun K hK => ?_) AllReadyH.nil
       (refine step_append_rn _ rfl (.tmp 118) (.tmp 123) 24 rfl paF_length (by decide) paF_one wz.heap.size 46 iP _ 48 Try.underlying24 hifP hp0 hp1 hp2' (by decide) rfl A4 c4 i (plz.take i) rfl LTz.out O4.out w4.heap.size A5 (plz.drop K1) (c1 - K1) (k - K1) LDz.out rfl ((HR5.out.below B4.out).more B4.out.size) HN5.out M HME.out (by omega) B4.out.size ?_)
       intro A6 c6 w6 o6 b6
       have B6 : Hid (Below wz.heap.size wz w6) := Lib.hid (B4.out.trans b6)
       have O6 : Hid (w6.ownsRow wz.heap.size 46 3 (.slice A6 M c6) M ((Vd.out plz i).flatMap paF)) := Lib.hid (by unfold Vd.out; rw [HK1.out]; exact o6)
       refine hK.out _ _ ?_ (fun hHeld => ?_)
       ·trivial
       clear hK K o6 b6
       try simp only [Act.put, List.setIfInBounds_toArray, List.set_cons_zero, List.set_cons_succ]
       have HV6 := Lib.hid (HVz.out.to B6.out)
       have h6 : gb < w6.heap.size := HV6.out.lt
       have q6 : w6.cell? ⟨gb, 1, none⟩ = some (.slice (some ⟨g1, 0, none⟩) k c1) := HV6.out.cells 1
       have z6 : w6.frozen? ⟨gb, 1, none⟩ = false := HV6.out.frozen 1
       refine takeD (i := 12) (oi := _) (v := ?vv8) (d := some 125) rfl (by kernel_rfl) (by kernel_rfl) (by kernel_rfl) (by kernel_rfl) (fun _ _ _ h => h) (Or.inl ⟨by kernel_rfl, ?_⟩) (by assumption) ?_
       rotate_left 1
       ·intro W_ hSw; (try dsimp only at hSw); go_simp; (first | done | with_reducible rfl)
       try simp only [Act.put, List.setIfInBounds_toArray, List.set_cons_zero, List.set_cons_succ]
       refine wpAnyH_ready (rs := [13]) (by kernel_rfl) (by simp) ?_
       refine AllReadyH.cons (o := _) rfl (fun K hK => ?_) AllReadyH.nil
       go_simp
       refine hK.out _ _ ?_ (fun hHeld => ?_)
       ·trivial
       clear hK K
       try simp only [Act.put]
       try simp only [List.setIfInBounds_toArray]
       try simp only [List.set_cons_succ]
       try simp only [List.set_cons_zero]
       refine wpAnyH_done (by kernel_rfl) ?_ _
       obtain ⟨w7, hw7⟩ : ∃ W, w6.setCell ⟨gb, 1, none⟩ (.slice A6 M c6) = W := ⟨_, rfl⟩
       have k7 : Only gb w6 w7 := by rw [← hw7]; exact (Only.refl _ _).set _
       have HV7 : Hid (RowAt w7 gb 26 [.string nm, .slice A6 M c6]) := Lib.hid (by rw [← hw7]; exact HV6.out.set 1 _)
       have HB7 : Hid (Below w.heap.size w w7) := Lib.hid ((HBz.out.trans (B6.out.mono HBz.out.size)).trans (k7.below (by omega)))
       have HP7 := Lib.hid (pas_own O6.out HPz.out.ok B6.out (fun p hp => (Vd.out_sub plz i).subset hp) HWz.out hgbz k7)
       have HS7 := Lib.hid (own_shp O6.out)
       rw [hw7]
       have CK7 := Lib.hid (CK.out A6 (Vd.out plz i) M c6 w7 HLO.out HB7.out HP7.out HS7.out)
       rw [Vd.check_b, HC7.out] at CK7
       have ra0 : w7.cell? ⟨gb, 0, none⟩ = some (.string nm) := HV7.out.cells 0
       have ra1 : w7.cell? ⟨gb, 1, none⟩ = some (.slice A6 M c6) := HV7.out.cells 1
       clear hw7 k7 q6 z6 h6
       go_wp2_with fail
       with_reducible refine (CK7.out).mono ?_
       rintro e_x9 w_x9 ⟨rfl, hb_x9⟩
       obtain ⟨x9, rfl⟩ := later_is hb_x9
       clear hb_x9
       have hz_x9 := x9.bel.size
       try simp at hz_x9
       have hb9 : Below w.heap.size w x9.val := HB7.out.trans (x9.bel.mono HB7.out.size)
       go_wp2
       go_ret
       exact ⟨rfl, hb9⟩
      ·go_simp
       refine hK.out _ _ ?_ (fun hHeld => ?_)
       ·trivial
       clear hK K
       try simp only [Act.put]
       try simp only [List.setIfInBounds_toArray]
       try simp only [List.set_cons_succ]
       try simp only [List.set_cons_zero]
       refine takeD (i := 10) (oi := _) (v := ?vv9) (d := some 123) rfl (by kernel_rfl) (by kernel_rfl) (by kernel_rfl) (by kernel_rfl) (fun _ _ _ h => h) (Or.inl ⟨by kernel_rfl, ?_⟩) (by assumption) ?_
       rotate_left 1
       ·intro W_ hSw; (try dsimp only at hSw); go_simp; (first | done | with_reducible rfl)
       try simp only [Act.put, List.setIfInBounds_toArray, List.set_cons_zero, List.set_cons_succ]
       rw [HA5.out]
       refine wpAnyH_ready (rs := [5]) (by kernel_rfl) (by simp) ?_
       refine AllReadyH.cons (o := _) rfl (fun K hK => ?_) AllReadyH.nil
       (refine step_append_rn _ rfl (.tmp 113) (.tmp 117) 24 rfl paF_length (by decide) paF_one wz.heap.size 46 iP _ 48 Try.underlying24 hifP hp0 hp1 hp2' (by decide) rfl (some ⟨gy, 0, none⟩) 0 0 [] rfl rfl OE.out Wc.heap.size (some ⟨g1, 0, none⟩) (plz.take i) c1 i LTz.out rfl ((HPz.out.rc.below BC.out).more BC.out.size |>.take i) (by simp) i (by omega) (by omega) BC.out.size ?_)
       intro A4 c4 w4 o4 b4
       rw [List.nil_append] at o4
       have B4 : Hid (Below wz.heap.size wz w4) := Lib.hid (BC.out.trans b4)
       have O4 := Lib.hid o4
       refine hK.out _ _ ?_ (fun hHeld => ?_)
       ·trivial
       clear hK K o4 b4
       try simp only [Act.put, List.setIfInBounds_toArray, List.set_cons_zero, List.set_cons_succ]
       have r41 : w4.cell? ⟨gb, 1, none⟩ = some (.slice (some ⟨g1, 0, none⟩) k c1) := (HVz.out.to B4.out).cells 1
       refine wpAnyH_ready (rs := [11]) (by kernel_rfl) (by simp) ?_
       refine AllReadyH.cons (o := _) rfl (fun K hK => ?_) AllReadyH.nil
       (refine step_append_rn _ rfl (.tmp 118) (.tmp 123) 24 rfl paF_length (by decide) paF_one wz.heap.size 46 iP _ 48 Try.underlying24 hifP hp0 hp1 hp2' (by decide) rfl A4 c4 i (plz.take i) rfl LTz.out O4.out w4.heap.size A5 (plz.drop K1) (c1 - K1) (k - K1) LDz.out rfl ((HR5.out.below B4.out).more B4.out.size) HN5.out M HME.out (by omega) B4.out.size ?_)
       intro A6 c6 w6 o6 b6
       have B6 : Hid (Below wz.heap.size wz w6) := Lib.hid (B4.out.trans b6)
       have O6 : Hid (w6.ownsRow wz.heap.size 46 3 (.slice A6 M c6) M ((Vd.out plz i).flatMap paF)) := Lib.hid (by unfold Vd.out; rw [HK1.out]; exact o6)
       refine hK.out _ _ ?_ (fun hHeld => ?_)
       ·trivial
       clear hK K o6 b6
       try simp only [Act.put, List.setIfInBounds_toArray, List.set_cons_zero, List.set_cons_succ]
       have HV6 := Lib.hid (HVz.out.to B6.out)
       have h6 : gb < w6.heap.size := HV6.out.lt
       have q6 : w6.cell? ⟨gb, 1, none⟩ = some (.slice (some ⟨g1, 0, none⟩) k c1) := HV6.out.cells 1
       have z6 : w6.frozen? ⟨gb, 1, none⟩ = false := HV6.out.frozen 1
       refine takeD (i := 12) (oi := _) (v := ?vv10) (d := some 125) rfl (by kernel_rfl) (by kernel_rfl) (by kernel_rfl) (by kernel_rfl) (fun _ _ _ h => h) (Or.inl ⟨by kernel_rfl, ?_⟩) (by assumption) ?_
       rotate_left 1
       ·intro W_ hSw; (try dsimp only at hSw); go_simp; (first | done | with_reducible rfl)
       try simp only [Act.put, List.setIfInBounds_toArray, List.set_cons_zero, List.set_cons_succ]
       refine wpAnyH_ready (rs := [13]) (by kernel_rfl) (by simp) ?_
       refine AllReadyH.cons (o := _) rfl (fun K hK => ?_) AllReadyH.nil
       go_simp
       refine hK.out _ _ ?_ (fun hHeld => ?_)
       ·trivial
       clear hK K
       try simp only [Act.put]
       try simp only [List.setIfInBounds_toArray]
       try simp only [List.set_cons_succ]
       try simp only [List.set_cons_zero]
       refine wpAnyH_done (by kernel_rfl) ?_ _
       obtain ⟨w7, hw7⟩ : ∃ W, w6.setCell ⟨gb, 1, none⟩ (.slice A6 M c6) = W := ⟨_, rfl⟩
       have k7 : Only gb w6 w7 := by rw [← hw7]; exact (Only.refl _ _).set _
       have HV7 : Hid (RowAt w7 gb 26 [.string nm, .slice A6 M c6]) := Lib.hid (by rw [← hw7]; exact HV6.out.set 1 _)
       have HB7 : Hid (Below w.heap.size w w7) := Lib.hid ((HBz.out.trans (B6.out.mono HBz.out.size)).trans (k7.below (by omega)))
       have HP7 := Lib.hid (pas_own O6.out HPz.out.ok B6.out (fun p hp => (Vd.out_sub plz i).subset hp) HWz.out hgbz k7)
       have HS7 := Lib.hid (own_shp O6.out)
       rw [hw7]
       have CK7 := Lib.hid (CK.out A6 (Vd.out plz i) M c6 w7 HLO.out HB7.out HP7.out HS7.out)
       rw [Vd.check_b, HC7.out] at CK7
       have ra0 : w7.cell? ⟨gb, 0, none⟩ = some (.string nm) := HV7.out.cells 0
       have ra1 : w7.cell? ⟨gb, 1, none⟩ = some (.slice A6 M c6) := HV7.out.cells 1
       clear hw7 k7 q6 z6 h6
       go_wp2_with fail
       with_reducible refine (CK7.out).mono ?_
       rintro e_x9 w_x9 ⟨rfl, hb_x9⟩
       obtain ⟨x9, rfl⟩ := later_is hb_x9
       clear hb_x9
       have hz_x9 := x9.bel.size
       try simp at hz_x9
       have hb9 : Below w.heap.size w x9.val := HB7.out.trans (x9.bel.mono HB7.out.size)
       go_wp2
       go_ret
       exact ⟨rfl, hb9⟩
     ·go_simp
      refine hK.out _ _ ?_ (fun hHeld => ?_)
      ·trivial
      clear hK K
      try simp only [Act.put]
      try simp only [List.setIfInBounds_toArray]
      try simp only [List.set_cons_succ]
      try simp only [List.set_cons_zero]
      refine takeD (i := 10) (oi := _) (v := ?vv11) (d := some 123) rfl (by kernel_rfl) (by kernel_rfl) (by kernel_rfl) (by kernel_rfl) (fun _ _ _ h => h) (Or.inl ⟨by kernel_rfl, ?_⟩) (by assumption) ?_
      rotate_left 1
      ·intro W_ hSw; (try dsimp only at hSw); go_simp; (first | done | with_reducible rfl)
      try simp only [Act.put, List.setIfInBounds_toArray, List.set_cons_zero, List.set_cons_succ]
      rw [HA5.out]
      refine wpAnyH_ready (rs := [2]) (by kernel_rfl) (by simp) ?_
      refine AllReadyH.cons (o := _) rfl (fun K hK => ?_) AllReadyH.nil
      go_simp
      refine hK.out _ _ ?_ (fun hHeld => ?_)
      ·trivial
      clear hK K
      try simp only [Act.put]
      try simp only [List.setIfInBounds_toArray]
      try simp only [List.set_cons_succ]
      try simp only [List.set_cons_zero]
      refine takeD (i := 4) (oi := _) (v := ?vv12) (d := some 117) rfl (by kernel_rfl) (by kernel_rfl) (by kernel_rfl) (by kernel_rfl) (fun _ _ _ h => h) (Or.inl ⟨by kernel_rfl, ?_⟩) (by assumption) ?_
      rotate_left 1
      ·intro W_ hSw; (try dsimp only at hSw); go_simp; (first | done | with_reducible rfl)
      try simp only [Act.put, List.setIfInBounds_toArray, List.set_cons_zero, List.set_cons_succ]
      refine wpAnyH_ready (rs := [5]) (by kernel_rfl) (by simp) ?_
      refine AllReadyH.cons (o := _) rfl (fun K hK => ?_) AllReadyH.nil
      (refine step_append_rn _ rfl (.tmp 113) (.tmp 117) 24 rfl paF_length (by decide) paF_one wz.heap.size 46 iP _ 48 Try.underlying24 hifP hp0 hp1 hp2' (by decide) rfl (some ⟨gy, 0, none⟩) 0 0 [] rfl rfl OE.out Wc.heap.size (some ⟨g1, 0, none⟩) (plz.take i) c1 i LTz.out rfl ((HPz.out.rc.below BC.out).more BC.out.size |>.take i) (by simp) i (by omega) (by omega) BC.out.size ?_)
      intro A4 c4 w4 o4 b4
      rw [List.nil_append] at o4
      have B4 : Hid (Below wz.heap.size wz w4) := Lib.hid (BC.out.trans b4)
      have O4 := Lib.hid o4
      refine hK.out _ _ ?_ (fun hHeld => ?_)
      ·trivial
      clear hK K o4 b4
      try simp only [Act.put, List.setIfInBounds_toArray, List.set_cons_zero, List.set_cons_succ]
      have r41 : w4.cell? ⟨gb, 1, none⟩ = some (.slice (some ⟨g1, 0, none⟩) k c1) := (HVz.out.to B4.out).cells 1
      refine wpAnyH_ready (rs := [11]) (by kernel_rfl) (by simp) ?_
      refine AllReadyH.cons (o := _) rfl (fun K hK => ?_) AllReadyH.nil
      (refine step_append_rn _ rfl (.tmp 118) (.tmp 123) 24 rfl paF_length (by decide) paF_one wz.heap.size 46 iP _ 48 Try.underlying24 hifP hp0 hp1 hp2' (by decide) rfl A4 c4 i (plz.take i) rfl LTz.out O4.out w4.heap.size A5 (plz.drop K1) (c1 - K1) (k - K1) LDz.out rfl ((HR5.out.below B4.out).more B4.out.size) HN5.out M HME.out (by omega) B4.out.size ?_)
      intro A6 c6 w6 o6 b6
      have B6 : Hid (Below wz.heap.size wz w6) := Lib.hid (B4.out.trans b6)
      have O6 : Hid (w6.ownsRow wz.heap.size 46 3 (.slice A6 M c6) M ((Vd.out plz i).flatMap paF)) := Lib.hid (by unfold Vd.out; rw [HK1.out]; exact o6)
      refine hK.out _ _ ?_ (fun hHeld => ?_)
      ·trivial
      clear hK K o6 b6
      try simp only [Act.put, List.setIfInBounds_toArray, List.set_cons_zero, List.set_cons_succ]
      have HV6 := Lib.hid (HVz.out.to B6.out)
      have h6 : gb < w6.heap.size := HV6.out.lt
      have q6 : w6.cell? ⟨gb, 1, none⟩ = some (.slice (some ⟨g1, 0, none⟩) k c1) := HV6.out.cells 1
      have z6 : w6.frozen? ⟨gb, 1, none⟩ = false := HV6.out.frozen 1
      refine takeD (i := 12) (oi := _) (v := ?vv13) (d := some 125) rfl (by kernel_rfl) (by kernel_rfl) (by kernel_rfl) (by kernel_rfl) (fun _ _ _ h => h) (Or.inl ⟨by kernel_rfl, ?_⟩) (by assumption) ?_
      rotate_left 1
      ·intro W_ hSw; (try dsimp only at hSw); go_simp; (first | done | with_reducible rfl)
      try simp only [Act.put, List.setIfInBounds_toArray, List.set_cons_zero, List.set_cons_succ]
      refine wpAnyH_ready (rs := [13]) (by kernel_rfl) (by simp) ?_
      refine AllReadyH.cons (o := _) rfl (fun K hK => ?_) AllReadyH.nil
      go_simp
      refine hK.out _ _ ?_ (fun hHeld => ?_)
      ·trivial
      clear hK K
      try simp only [Act.put]
      try simp only [List.setIfInBounds_toArray]
      try simp only [List.set_cons_succ]
      try simp only [List.set_cons_zero]
      refine wpAnyH_done (by kernel_rfl) ?_ _
      obtain ⟨w7, hw7⟩ : ∃ W, w6.setCell ⟨gb, 1, none⟩ (.slice A6 M c6) = W := ⟨_, rfl⟩
      have k7 : Only gb w6 w7 := by rw [← hw7]; exact (Only.refl _ _).set _
      have HV7 : Hid (RowAt w7 gb 26 [.string nm, .slice A6 M c6]) := Lib.hid (by rw [← hw7]; exact HV6.out.set 1 _)
      have HB7 : Hid (Below w.heap.size w w7) := Lib.hid ((HBz.out.trans (B6.out.mono HBz.out.size)).trans (k7.below (by omega)))
      have HP7 := Lib.hid (pas_own O6.out HPz.out.ok B6.out (fun p hp => (Vd.out_sub plz i).subset hp) HWz.out hgbz k7)
      have HS7 := Lib.hid (own_shp O6.out)
      rw [hw7]
      have CK7 := Lib.hid (CK.out A6 (Vd.out plz i) M c6 w7 HLO.out HB7.out HP7.out HS7.out)
      rw [Vd.check_b, HC7.out] at CK7
      have ra0 : w7.cell? ⟨gb, 0, none⟩ = some (.string nm) := HV7.out.cells 0
      have ra1 : w7.cell? ⟨gb, 1, none⟩ = some (.slice A6 M c6) := HV7.out.cells 1
      clear hw7 k7 q6 z6 h6
      go_wp2_with fail
      with_reducible refine (CK7.out).mono ?_
      rintro e_x9 w_x9 ⟨rfl, hb_x9⟩
      obtain ⟨x9, rfl⟩ := later_is hb_x9
      clear hb_x9
      have hz_x9 := x9.bel.size
      try simp at hz_x9
      have hb9 : Below w.heap.size w x9.val := HB7.out.trans (x9.bel.mono HB7.out.size)
      go_wp2
      go_ret
      exact ⟨rfl, hb9⟩
    ·go_simp
     refine hK.out _ _ ?_ (fun hHeld => ?_)
     ·trivial
     clear hK K
     try simp only [Act.put]
     try simp only [List.setIfInBounds_toArray]
     try simp only [List.set_cons_succ]
     try simp only [List.set_cons_zero]
     refine takeD (i := 4) (oi := _) (v := ?vv14) (d := some 117) rfl (by kernel_rfl) (by kernel_rfl) (by kernel_rfl) (by kernel_rfl) (fun _ _ _ h => h) (Or.inl ⟨by kernel_rfl, ?_⟩) (by assumption) ?_
     rotate_left 1
     ·intro W_ hSw; (try dsimp only at hSw); go_simp; (first | done | with_reducible rfl)
     try simp only [Act.put, List.setIfInBounds_toArray, List.set_cons_zero, List.set_cons_succ]
     refine wpAnyH_ready (rs := [0, 7]) (by kernel_rfl) (by simp) ?_
     refine AllReadyH.cons (o := _) rfl (fun K hK => ?_) (AllReadyH.cons (o := _) rfl (fun K hK => ?_) AllReadyH.nil)
     ·go_simp
      refine hK.out _ _ ?_ (fun hHeld => ?_)
      ·trivial
      clear hK K
      try simp only [Act.put]
      try simp only [List.setIfInBounds_toArray]
      try simp only [List.set_cons_succ]
      try simp only [List.set_cons_zero]
      obtain ⟨Wc, hWc⟩ : ∃ W, (wz.alloc (.cells #[] 46)).drew = W := ⟨_, rfl⟩
      have BC : Hid (Below wz.heap.size wz Wc) := Lib.hid (by rw [← hWc]; exact (bel_alloc (Below.refl _ _) _).drew)
      have OE : Hid (Wc.ownsRow wz.heap.size 46 3 (.slice (some ⟨gy, 0, none⟩) 0 0) 0 (([] : List Pa).flatMap paF)) := Lib.hid (by
       rw [← hWc, ← HGY.out]
       exact own_below (own_recs_empty paF wz wz.heap.size 46 3 _ rfl (Nat.le_refl _)) (Below.refl _ _).drew)
      have rc1 : Wc.cell? ⟨gb, 1, none⟩ = some (.slice (some ⟨g1, 0, none⟩) k c1) := (HVz.out.to BC.out).cells 1
      rw [hWc, HGY.out]
      clear hWc
      refine wpAnyH_ready (rs := [5, 7]) (by kernel_rfl) (by simp) ?_
      refine AllReadyH.cons (o := _) rfl (fun K hK => ?_) (AllReadyH.cons (o := _) rfl (fun K hK => ?_) AllReadyH.nil)
      ·(refine step_append_rn _ rfl (.tmp 113) (.tmp 117) 24 rfl paF_length (by decide) paF_one wz.heap.size 46 iP _ 48 Try.underlying24 hifP hp0 hp1 hp2' (by decide) rfl (some ⟨gy, 0, none⟩) 0 0 [] rfl rfl OE.out Wc.heap.size (some ⟨g1, 0, none⟩) (plz.take i) c1 i LTz.out rfl ((HPz.out.rc.below BC.out).more BC.out.size |>.take i) (by simp) i (by omega) (by omega) BC.out.size ?_)
       intro A4 c4 w4 o4 b4
       rw [List.nil_append] at o4
       have B4 : Hid (Below wz.heap.size wz w4) := Lib.hid (BC.out.trans b4)
       have O4 := Lib.hid o4
       refine hK.out _ _ ?_ (fun hHeld => ?_)
       ·trivial
       clear hK K o4 b4
       try simp only [Act.put, List.setIfInBounds_toArray, List.set_cons_zero, List.set_cons_succ]
       have r41 : w4.cell? ⟨gb, 1, none⟩ = some (.slice (some ⟨g1, 0, none⟩) k c1) := (HVz.out.to B4.out).cells 1
       refine wpAnyH_ready (rs := [7]) (by kernel_rfl) (by simp) ?_
       refine AllReadyH.cons (o := _) rfl (fun K hK => ?_) AllReadyH.nil
       go_simp
       refine hK.out _ _ ?_ (fun hHeld => ?_)
       ·trivial
       clear hK K
       try simp only [Act.put]
       try simp only [List.setIfInBounds_toArray]
       try simp only [List.set_cons_succ]
       try simp only [List.set_cons_zero]
       refine takeD (i := 10) (oi := _) (v := ?vv15) (d := some 123) rfl (by kernel_rfl) (by kernel_rfl) (by kernel_rfl) (by kernel_rfl) (fun _ _ _ h => h) (Or.inl ⟨by kernel_rfl, ?_⟩) (by assumption) ?_
       rotate_left 1
       ·intro W_ hSw; (try dsimp only at hSw); go_simp; (first | done | with_reducible rfl)
       try simp only [Act.put, List.setIfInBounds_toArray, List.set_cons_zero, List.set_cons_succ]
       rw [HA5.out]
       refine wpAnyH_ready (rs := [11]) (by kernel_rfl) (by simp) ?_
       refine AllReadyH.cons (o := _) rfl (fun K hK => ?_) AllReadyH.nil
       (refine step_append_rn _ rfl (.tmp 118) (.tmp 123) 24 rfl paF_length (by decide) paF_one wz.heap.size 46 iP _ 48 Try.underlying24 hifP hp0 hp1 hp2' (by decide) rfl A4 c4 i (plz.take i) rfl LTz.out O4.out w4.heap.size A5 (plz.drop K1) (c1 - K1) (k - K1) LDz.out rfl ((HR5.out.below B4.out).more B4.out.size) HN5.out M HME.out (by omega) B4.out.size ?_)
       intro A6 c6 w6 o6 b6
       have B6 : Hid (Below wz.heap.size wz w6) := Lib.hid (B4.out.trans b6)
       have O6 : Hid (w6.ownsRow wz.heap.size 46 3 (.slice A6 M c6) M ((Vd.out plz i).flatMap paF)) := Lib.hid (by unfold Vd.out; rw [HK1.out]; exact o6)
       refine hK.out _ _ ?_ (fun hHeld => ?_)
       ·trivial
       clear hK K o6 b6
       try simp only [Act.put, List.setIfInBounds_toArray, List.set_cons_zero, List.set_cons_succ]
       have HV6 := Lib.hid (HVz.out.to B6.out)
       have h6 : gb < w6.heap.size := HV6.out.lt
       have q6 : w6.cell? ⟨gb, 1, none⟩ = some (.slice (some ⟨g1, 0, none⟩) k c1) := HV6.out.cells 1
       have z6 : w6.frozen? ⟨gb, 1, none⟩ = false := HV6.out.frozen 1
       refine takeD (i := 12) (oi := _) (v := ?vv16) (d := some 125) rfl (by kernel_rfl) (by kernel_rfl) (by kernel_rfl) (by kernel_rfl) (fun _ _ _ h => h) (Or.inl ⟨by kernel_rfl, ?_⟩) (by assumption) ?_
       rotate_left 1
       ·intro W_ hSw; (try dsimp only at hSw); go_simp; (first | done | with_reducible rfl)
       try simp only [Act.put, List.setIfInBounds_toArray, List.set_cons_zero, List.set_cons_succ]
       refine wpAnyH_ready (rs := [13]) (by kernel_rfl) (by simp) ?_
       refine AllReadyH.cons (o := _) rfl (fun K hK => ?_) AllReadyH.nil
       go_simp
       refine hK.out _ _ ?_ (fun hHeld => ?_)
       ·trivial
       clear hK K
       try simp only [Act.put]
       try simp only [List.setIfInBounds_toArray]
       try simp only [List.set_cons_succ]
       try simp only [List.set_cons_zero]
       refine wpAnyH_done (by kernel_rfl) ?_ _
       obtain ⟨w7, hw7⟩ : ∃ W, w6.setCell ⟨gb, 1, none⟩ (.slice A6 M c6) = W := ⟨_, rfl⟩
       have k7 : Only gb w6 w7 := by rw [← hw7]; exact (Only.refl _ _).set _
       have HV7 : Hid (RowAt w7 gb 26 [.string nm, .slice A6 M c6]) := Lib.hid (by rw [← hw7]; exact HV6.out.set 1 _)
       have HB7 : Hid (Below w.heap.size w w7) := Lib.hid ((HBz.out.trans (B6.out.mono HBz.out.size)).trans (k7.below (by omega)))
       have HP7 := Lib.hid (pas_own O6.out HPz.out.ok B6.out (fun p hp => (Vd.out_sub plz i).subset hp) HWz.out hgbz k7)
       have HS7 := Lib.hid (own_shp O6.out)
       rw [hw7]
       have CK7 := Lib.hid (CK.out A6 (Vd.out plz i) M c6 w7 HLO.out HB7.out HP7.out HS7.out)
       rw [Vd.check_b, HC7.out] at CK7
       have ra0 : w7.cell? ⟨gb, 0, none⟩ = some (.string nm) := HV7.out.cells 0
       have ra1 : w7.cell? ⟨gb, 1, none⟩ = some (.slice A6 M c6) := HV7.out.cells 1
       clear hw7 k7 q6 z6 h6
       go_wp2_with fail
       with_reducible refine (CK7.out).mono ?_
       rintro e_x9 w_x9 ⟨rfl, hb_x9⟩
       obtain ⟨x9, rfl⟩ := later_is hb_x9
       clear hb_x9
       have hz_x9 := x9.bel.size
       try simp at hz_x9
       have hb9 : Below w.heap.size w x9.val := HB7.out.trans (x9.bel.mono HB7.out.size)
       go_wp2
       go_ret
       exact ⟨rfl, hb9⟩
      ·go_simp
       refine hK.out _ _ ?_ (fun hHeld => ?_)
       ·trivial
       clear hK K
       try simp only [Act.put]
       try simp only [List.setIfInBounds_toArray]
       try simp only [List.set_cons_succ]
       try simp only [List.set_cons_zero]
       refine takeD (i := 10) (oi := _) (v := ?vv17) (d := some 123) rfl (by kernel_rfl) (by kernel_rfl) (by kernel_rfl) (by kernel_rfl) (fun _ _ _ h => h) (Or.inl ⟨by kernel_rfl, ?_⟩) (by assumption) ?_
       rotate_left 1
       ·intro W_ hSw; (try dsimp only at hSw); go_simp; (first | done | with_reducible rfl)
       try simp only [Act.put, List.setIfInBounds_toArray, List.set_cons_zero, List.set_cons_succ]
       rw [HA5.out]
       refine wpAnyH_ready (rs := [5]) (by kernel_rfl) (by simp) ?_
       refine AllReadyH.cons (o := _) rfl (fun K hK => ?_) AllReadyH.nil
       (refine step_append_rn _ rfl (.tmp 113) (.tmp 117) 24 rfl paF_length (by decide) paF_one wz.heap.size 46 iP _ 48 Try.underlying24 hifP hp0 hp1 hp2' (by decide) rfl (some ⟨gy, 0, none⟩) 0 0 [] rfl rfl OE.out Wc.heap.size (some ⟨g1, 0, none⟩) (plz.take i) c1 i LTz.out rfl ((HPz.out.rc.below BC.out).more BC.out.size |>.take i) (by simp) i (by omega) (by omega) BC.out.size ?_)
       intro A4 c4 w4 o4 b4
       rw [List.nil_append] at o4
       have B4 : Hid (Below wz.heap.size wz w4) := Lib.hid (BC.out.trans b4)
       have O4 := Lib.hid o4
       refine hK.out _ _ ?_ (fun hHeld => ?_)
       ·trivial
       clear hK K o4 b4
       try simp only [Act.put, List.setIfInBounds_toArray, List.set_cons_zero, List.set_cons_succ]
       have r41 : w4.cell? ⟨gb, 1, none⟩ = some (.slice (some ⟨g1, 0, none⟩) k c1) := (HVz.out.to B4.out).cells 1
       refine wpAnyH_ready (rs := [11]) (by kernel_rfl) (by simp) ?_
       refine AllReadyH.cons (o := _) rfl (fun K hK => ?_) AllReadyH.nil
       (refine step_append_rn _ rfl (.tmp 118) (.tmp 123) 24 rfl paF_length (by decide) paF_one wz.heap.size 46 iP _ 48 Try.underlying24 hifP hp0 hp1 hp2' (by decide) rfl A4 c4 i (plz.take i) rfl LTz.out O4.out w4.heap.size A5 (plz.drop K1) (c1 - K1) (k - K1) LDz.out rfl ((HR5.out.below B4.out).more B4.out.size) HN5.out M HME.out (by omega) B4.out.size ?_)
       intro A6 c6 w6 o6 b6
       have B6 : Hid (Below wz.heap.size wz w6) := Lib.hid (B4.out.trans b6)
       have O6 : Hid (w6.ownsRow wz.heap.size 46 3 (.slice A6 M c6) M ((Vd.out plz i).flatMap paF)) := Lib.hid (by unfold Vd.out; rw [HK1.out]; exact o6)
       refine hK.out _ _ ?_ (fun hHeld => ?_)
       ·trivial
       clear hK K o6 b6
       try simp only [Act.put, List.setIfInBounds_toArray, List.set_cons_zero, List.set_cons_succ]
       have HV6 := Lib.hid (HVz.out.to B6.out)
       have h6 : gb < w6.heap.size := HV6.out.lt
       have q6 : w6.cell? ⟨gb, 1, none⟩ = some (.slice (some ⟨g1, 0, none⟩) k c1) := HV6.out.cells 1
       have z6 : w6.frozen? ⟨gb, 1, none⟩ = false := HV6.out.frozen 1
       refine takeD (i := 12) (oi := _) (v := ?vv18) (d := some 125) rfl (by kernel_rfl) (by kernel_rfl) (by kernel_rfl) (by kernel_rfl) (fun _ _ _ h => h) (Or.inl ⟨by kernel_rfl, ?_⟩) (by assumption) ?_
       rotate_left 1
       ·intro W_ hSw; (try dsimp only at hSw); go_simp; (first | done | with_reducible rfl)
       try simp only [Act.put, List.setIfInBounds_toArray, List.set_cons_zero, List.set_cons_succ]
       refine wpAnyH_ready (rs := [13]) (by kernel_rfl) (by simp) ?_
       refine AllReadyH.cons (o := _) rfl (fun K hK => ?_) AllReadyH.nil
       go_simp
       refine hK.out _ _ ?_ (fun hHeld => ?_)
       ·trivial
       clear hK K
       try simp only [Act.put]
       try simp only [List.setIfInBounds_toArray]
       try simp only [List.set_cons_succ]
       try simp only [List.set_cons_zero]
       refine wpAnyH_done (by kernel_rfl) ?_ _
       obtain ⟨w7, hw7⟩ : ∃ W, w6.setCell ⟨gb, 1, none⟩ (.slice A6 M c6) = W := ⟨_, rfl⟩
       have k7 : Only gb w6 w7 := by rw [← hw7]; exact (Only.refl _ _).set _
       have HV7 : Hid (RowAt w7 gb 26 [.string nm, .slice A6 M c6]) := Lib.hid (by rw [← hw7]; exact HV6.out.set 1 _)
       have HB7 : Hid (Below w.heap.size w w7) := Lib.hid ((HBz.out.trans (B6.out.mono HBz.out.size)).trans (k7.below (by omega)))
       have HP7 := Lib.hid (pas_own O6.out HPz.out.ok B6.out (fun p hp => (Vd.out_sub plz i).subset hp) HWz.out hgbz k7)
       have HS7 := Lib.hid (own_shp O6.out)
       rw [hw7]
       have CK7 := Lib.hid (CK.out A6 (Vd.out plz i) M c6 w7 HLO.out HB7.out HP7.out HS7.out)
       rw [Vd.check_b, HC7.out] at CK7
       have ra0 : w7.cell? ⟨gb, 0, none⟩ = some (.string nm) := HV7.out.cells 0
       have ra1 : w7.cell? ⟨gb, 1, none⟩ = some (.slice A6 M c6) := HV7.out.cells 1
       clear hw7 k7 q6 z6 h6
       go_wp2_with fail
       with_reducible refine (CK7.out).mono ?_
       rintro e_x9 w_x9 ⟨rfl, hb_x9⟩
       obtain ⟨x9, rfl⟩ := later_is hb_x9
       clear hb_x9
       have hz_x9 := x9.bel.size
       try simp at hz_x9
       have hb9 : Below w.heap.size w x9.val := HB7.out.trans (x9.bel.mono HB7.out.size)
       go_wp2
       go_ret
       exact ⟨rfl, hb9⟩
     ·go_simp
      refine hK.out _ _ ?_ (fun hHeld => ?_)
      ·trivial
      clear hK K
      try simp only [Act.put]
      try simp only [List.setIfInBounds_toArray]
      try simp only [List.set_cons_succ]
      try simp only [List.set_cons_zero]
      refine takeD (i := 10) (oi := _) (v := ?vv19) (d := some 123) rfl (by kernel_rfl) (by kernel_rfl) (by kernel_rfl) (by kernel_rfl) (fun _ _ _ h => h) (Or.inl ⟨by kernel_rfl, ?_⟩) (by assumption) ?_
      rotate_left 1
      ·intro W_ hSw; (try dsimp only at hSw); go_simp; (first | done | with_reducible rfl)
      try simp only [Act.put, List.setIfInBounds_toArray, List.set_cons_zero, List.set_cons_succ]
      rw [HA5.out]
      refine wpAnyH_ready (rs := [0]) (by kernel_rfl) (by simp) ?_
      refine AllReadyH.cons (o := _) rfl (fun K hK => ?_) AllReadyH.nil
      go_simp
      refine hK.out _ _ ?_ (fun hHeld => ?_)
      ·trivial
      clear hK K
      try simp only [Act.put]
      try simp only [List.setIfInBounds_toArray]
      try simp only [List.set_cons_succ]
      try simp only [List.set_cons_zero]
      obtain ⟨Wc, hWc⟩ : ∃ W, (wz.alloc (.cells #[] 46)).drew = W := ⟨_, rfl⟩
      have BC : Hid (Below wz.heap.size wz Wc) := Lib.hid (by rw [← hWc]; exact (bel_alloc (Below.refl _ _) _).drew)
      have OE : Hid (Wc.ownsRow wz.heap.size 46 3 (.slice (some ⟨gy, 0, none⟩) 0 0) 0 (([] : List Pa).flatMap paF)) := Lib.hid (by
       rw [← hWc, ← HGY.out]
       exact own_below (own_recs_empty paF wz wz.heap.size 46 3 _ rfl (Nat.le_refl _)) (Below.refl _ _).drew)
      have rc1 : Wc.cell? ⟨gb, 1, none⟩ = some (.slice (some ⟨g1, 0, none⟩) k c1) := (HVz.out.to BC.out).cells 1
      rw [hWc, HGY.out]
      clear hWc
      refine wpAnyH_ready (rs := [5]) (by kernel_rfl) (by simp) ?_
      refine AllReadyH.cons (o := _) rfl (fun K hK => ?_) AllReadyH.nil
      (refine step_append_rn _ rfl (.tmp 113) (.tmp 117) 24 rfl paF_length (by decide) paF_one wz.heap.size 46 iP _ 48 Try.underlying24 hifP hp0 hp1 hp2' (by decide) rfl (some ⟨gy, 0, none⟩) 0 0 [] rfl rfl OE.out Wc.heap.size (some ⟨g1, 0, none⟩) (plz.take i) c1 i LTz.out rfl ((HPz.out.rc.below BC.out).more BC.out.size |>.take i) (by simp) i (by omega) (by omega) BC.out.size ?_)
      intro A4 c4 w4 o4 b4
      rw [List.nil_append] at o4
      have B4 : Hid (Below wz.heap.size wz w4) := Lib.hid (BC.out.trans b4)
      have O4 := Lib.hid o4
      refine hK.out _ _ ?_ (fun hHeld => ?_)
      ·trivial
      clear hK K o4 b4
      try simp only [Act.put, List.setIfInBounds_toArray, List.set_cons_zero, List.set_cons_succ]
      have r41 : w4.cell? ⟨gb, 1, none⟩ = some (.slice (some ⟨g1, 0, none⟩) k c1) := (HVz.out.to B4.out).cells 1
      refine wpAnyH_ready (rs := [11]) (by kernel_rfl) (by simp) ?_
      refine AllReadyH.cons (o := _) rfl (fun K hK => ?_) AllReadyH.nil
      (refine step_append_rn _ rfl (.tmp 118) (.tmp 123) 24 rfl paF_length (by decide) paF_one wz.heap.size 46 iP _ 48 Try.underlying24 hifP hp0 hp1 hp2' (by decide) rfl A4 c4 i (plz.take i) rfl LTz.out O4.out w4.heap.size A5 (plz.drop K1) (c1 - K1) (k - K1) LDz.out rfl ((HR5.out.below B4.out).more B4.out.size) HN5.out M HME.out (by omega) B4.out.size ?_)
      intro A6 c6 w6 o6 b6
      have B6 : Hid (Below wz.heap.size wz w6) := Lib.hid (B4.out.trans b6)
      have O6 : Hid (w6.ownsRow wz.heap.size 46 3 (.slice A6 M c6) M ((Vd.out plz i).flatMap paF)) := Lib.hid (by unfold Vd.out; rw [HK1.out]; exact o6)
      refine hK.out _ _ ?_ (fun hHeld => ?_)
      ·trivial
      clear hK K o6 b6
      try simp only [Act.put, List.setIfInBounds_toArray, List.set_cons_zero, List.set_cons_succ]
      have HV6 := Lib.hid (HVz.out.to B6.out)
      have h6 : gb < w6.heap.size := HV6.out.lt
      have q6 : w6.cell? ⟨gb, 1, none⟩ = some (.slice (some ⟨g1, 0, none⟩) k c1) := HV6.out.cells 1
      have z6 : w6.frozen? ⟨gb, 1, none⟩ = false := HV6.out.frozen 1
      refine takeD (i := 12) (oi := _) (v := ?vv20) (d := some 125) rfl (by kernel_rfl) (by kernel_rfl) (by kernel_rfl) (by kernel_rfl) (fun _ _ _ h => h) (Or.inl ⟨by kernel_rfl, ?_⟩) (by assumption) ?_
      rotate_left 1
      ·intro W_ hSw; (try dsimp only at hSw); go_simp; (first | done | with_reducible rfl)
      try simp only [Act.put, List.setIfInBounds_toArray, List.set_cons_zero, List.set_cons_succ]
      refine wpAnyH_ready (rs := [13]) (by kernel_rfl) (by simp) ?_
      refine AllReadyH.cons (o := _) rfl (fun K hK => ?_) AllReadyH.nil
      go_simp
      refine hK.out _ _ ?_ (fun hHeld => ?_)
      ·trivial
      clear hK K
      try simp only [Act.put]
      try simp only [List.setIfInBounds_toArray]
      try simp only [List.set_cons_succ]
      try simp only [List.set_cons_zero]
      refine wpAnyH_done (by kernel_rfl) ?_ _
      obtain ⟨w7, hw7⟩ : ∃ W, w6.setCell ⟨gb, 1, none⟩ (.slice A6 M c6) = W := ⟨_, rfl⟩
      have k7 : Only gb w6 w7 := by rw [← hw7]; exact (Only.refl _ _).set _
      have HV7 : Hid (RowAt w7 gb 26 [.string nm, .slice A6 M c6]) := Lib.hid (by rw [← hw7]; exact HV6.out.set 1 _)
      have HB7 : Hid (Below w.heap.size w w7) := Lib.hid ((HBz.out.trans (B6.out.mono HBz.out.size)).trans (k7.below (by omega)))
      have HP7 := Lib.hid (pas_own O6.out HPz.out.ok B6.out (fun p hp => (Vd.out_sub plz i).subset hp) HWz.out hgbz k7)
      have HS7 := Lib.hid (own_shp O6.out)
      rw [hw7]
      have CK7 := Lib.hid (CK.out A6 (Vd.out plz i) M c6 w7 HLO.out HB7.out HP7.out HS7.out)
      rw [Vd.check_b, HC7.out] at CK7
      have ra0 : w7.cell? ⟨gb, 0, none⟩ = some (.string nm) := HV7.out.cells 0
      have ra1 : w7.cell? ⟨gb, 1, none⟩ = some (.slice A6 M c6) := HV7.out.cells 1
      clear hw7 k7 q6 z6 h6
      go_wp2_with fail
      with_reducible refine (CK7.out).mono ?_
      rintro e_x9 w_x9 ⟨rfl, hb_x9⟩
      obtain ⟨x9, rfl⟩ := later_is hb_x9
      clear hb_x9
      have hz_x9 := x9.bel.size
      try simp at hz_x9
      have hb9 : Below w.heap.size w x9.val := HB7.out.trans (x9.bel.mono HB7.out.size)
      go_wp2
      go_ret
      exact ⟨rfl, hb9⟩
    ·go_simp
     refine hK.out _ _ ?_ (fun hHeld => ?_)
     ·trivial
     clear hK K
     try simp only [Act.put]
     try simp only [List.setIfInBounds_toArray]
     try simp only [List.set_cons_succ]
     try simp only [List.set_cons_zero]
     refine takeD (i := 10) (oi := _) (v := ?vv21) (d := some 123) rfl (by kernel_rfl) (by kernel_rfl) (by kernel_rfl) (by kernel_rfl) (fun _ _ _ h => h) (Or.inl ⟨by kernel_rfl, ?_⟩) (by assumption) ?_
     rotate_left 1
     ·intro W_ hSw; (try dsimp only at hSw); go_simp; (first | done | with_reducible rfl)
     try simp only [Act.put, List.setIfInBounds_toArray, List.set_cons_zero, List.set_cons_succ]
     rw [HA5.out]
     refine wpAnyH_ready (rs := [0, 2]) (by kernel_rfl) (by simp) ?_
     refine AllReadyH.cons (o := _) rfl (fun K hK => ?_) (AllReadyH.cons (o := _) rfl (fun K hK => ?_) AllReadyH.nil)
     ·go_simp
      refine hK.out _ _ ?_ (fun hHeld => ?_)
      ·trivial
      clear hK K
      try simp only [Act.put]
      try simp only [List.setIfInBounds_toArray]
      try simp only [List.set_cons_succ]
      try simp only [List.set_cons_zero]
      obtain ⟨Wc, hWc⟩ : ∃ W, (wz.alloc (.cells #[] 46)).drew = W := ⟨_, rfl⟩
      have BC : Hid (Below wz.heap.size wz Wc) := Lib.hid (by rw [← hWc]; exact (bel_alloc (Below.refl _ _) _).drew)
      have OE : Hid (Wc.ownsRow wz.heap.size 46 3 (.slice (some ⟨gy, 0, none⟩) 0 0) 0 (([] : List Pa).flatMap paF)) := Lib.hid (by
       rw [← hWc, ← HGY.out]
       exact own_below (own_recs_empty paF wz wz.heap.size 46 3 _ rfl (Nat.le_refl _)) (Below.refl _ _).drew)
      have rc1 : Wc.cell? ⟨gb, 1, none⟩ = some (.slice (some ⟨g1, 0, none⟩) k c1) := (HVz.out.to BC.out).cells 1
      rw [hWc, HGY.out]
      clear hWc
      refine wpAnyH_ready (rs := [2]) (by kernel_rfl) (by simp) ?_
      refine AllReadyH.cons (o := _) rfl (fun K hK => ?_) AllReadyH.nil
      go_simp
      refine hK.out _ _ ?_ (fun hHeld => ?_)
      ·trivial
      clear hK K
      try simp only [Act.put]
      try simp only [List.setIfInBounds_toArray]
      try simp only [List.set_cons_succ]
      try simp only [List.set_cons_zero]
      refine takeD (i := 4) (oi := _) (v := ?vv22) (d := some 117) rfl (by kernel_rfl) (by kernel_rfl) (by kernel_rfl) (by kernel_rfl) (fun _ _ _ h => h) (Or.inl ⟨by kernel_rfl, ?_⟩) (by assumption) ?_
      rotate_left 1
      ·intro W_ hSw; (try dsimp only at hSw); go_simp; (first | done | with_reducible rfl)
      try simp only [Act.put, List.setIfInBounds_toArray, List.set_cons_zero, List.set_cons_succ]
      refine wpAnyH_ready (rs := [5]) (by kernel_rfl) (by simp) ?_
      refine AllReadyH.cons (o := _) rfl (fun K hK => ?_) AllReadyH.nil
      (refine step_append_rn _ rfl (.tmp 113) (.tmp 117) 24 rfl paF_length (by decide) paF_one wz.heap.size 46 iP _ 48 Try.underlying24 hifP hp0 hp1 hp2' (by decide) rfl (some ⟨gy, 0, none⟩) 0 0 [] rfl rfl OE.out Wc.heap.size (some ⟨g1, 0, none⟩) (plz.take i) c1 i LTz.out rfl ((HPz.out.rc.below BC.out).more BC.out.size |>.take i) (by simp) i (by omega) (by omega) BC.out.size ?_)
      intro A4 c4 w4 o4 b4
      rw [List.nil_append] at o4
      have B4 : Hid (Below wz.heap.size wz w4) := Lib.hid (BC.out.trans b4)
      have O4 := Lib.hid o4
      refine hK.out _ _ ?_ (fun hHeld => ?_)
      ·trivial
      clear hK K o4 b4
      try simp only [Act.put, List.setIfInBounds_toArray, List.set_cons_zero, List.set_cons_succ]
      have r41 : w4.cell? ⟨gb, 1, none⟩ = some (.slice (some ⟨g1, 0, none⟩) k c1) := (HVz.out.to B4.out).cells 1
      refine wpAnyH_ready (rs := [11]) (by kernel_rfl) (by simp) ?_
      refine AllReadyH.cons (o := _) rfl (fun K hK => ?_) AllReadyH.nil
      (refine step_append_rn _ rfl (.tmp 118) (.tmp 123) 24 rfl paF_length (by decide) paF_one wz.heap.size 46 iP _ 48 Try.underlying24 hifP hp0 hp1 hp2' (by decide) rfl A4 c4 i (plz.take i) rfl LTz.out O4.out w4.heap.size A5 (plz.drop K1) (c1 - K1) (k - K1) LDz.out rfl ((HR5.out.below B4.out).more B4.out.size) HN5.out M HME.out (by omega) B4.out.size ?_)
      intro A6 c6 w6 o6 b6
      have B6 : Hid (Below wz.heap.size wz w6) := Lib.hid (B4.out.trans b6)
      have O6 : Hid (w6.ownsRow wz.heap.size 46 3 (.slice A6 M c6) M ((Vd.out plz i).flatMap paF)) := Lib.hid (by unfold Vd.out; rw [HK1.out]; exact o6)
      refine hK.out _ _ ?_ (fun hHeld => ?_)
      ·trivial
      clear hK K o6 b6
      try simp only [Act.put, List.setIfInBounds_toArray, List.set_cons_zero, List.set_cons_succ]
      have HV6 := Lib.hid (HVz.out.to B6.out)
      have h6 : gb < w6.heap.size := HV6.out.lt
      have q6 : w6.cell? ⟨gb, 1, none⟩ = some (.slice (some ⟨g1, 0, none⟩) k c1) := HV6.out.cells 1
      have z6 : w6.frozen? ⟨gb, 1, none⟩ = false := HV6.out.frozen 1
      refine takeD (i := 12) (oi := _) (v := ?vv23) (d := some 125) rfl (by kernel_rfl) (by kernel_rfl) (by kernel_rfl) (by kernel_rfl) (fun _ _ _ h => h) (Or.inl ⟨by kernel_rfl, ?_⟩) (by assumption) ?_
      rotate_left 1
      ·intro W_ hSw; (try dsimp only at hSw); go_simp; (first | done | with_reducible rfl)
      try simp only [Act.put, List.setIfInBounds_toArray, List.set_cons_zero, List.set_cons_succ]
      refine wpAnyH_ready (rs := [13]) (by kernel_rfl) (by simp) ?_
      refine AllReadyH.cons (o := _) rfl (fun K hK => ?_) AllReadyH.nil
      go_simp
      refine hK.out _ _ ?_ (fun hHeld => ?_)
      ·trivial
      clear hK K
      try simp only [Act.put]
      try simp only [List.setIfInBounds_toArray]
      try simp only [List.set_cons_succ]
      try simp only [List.set_cons_zero]
      refine wpAnyH_done (by kernel_rfl) ?_ _
      obtain ⟨w7, hw7⟩ : ∃ W, w6.setCell ⟨gb, 1, none⟩ (.slice A6 M c6) = W := ⟨_, rfl⟩
      have k7 : Only gb w6 w7 := by rw [← hw7]; exact (Only.refl _ _).set _
      have HV7 : Hid (RowAt w7 gb 26 [.string nm, .slice A6 M c6]) := Lib.hid (by rw [← hw7]; exact HV6.out.set 1 _)
      have HB7 : Hid (Below w.heap.size w w7) := Lib.hid ((HBz.out.trans (B6.out.mono HBz.out.size)).trans (k7.below (by omega)))
      have HP7 := Lib.hid (pas_own O6.out HPz.out.ok B6.out (fun p hp => (Vd.out_sub plz i).subset hp) HWz.out hgbz k7)
      have HS7 := Lib.hid (own_shp O6.out)
      rw [hw7]
      have CK7 := Lib.hid (CK.out A6 (Vd.out plz i) M c6 w7 HLO.out HB7.out HP7.out HS7.out)
      rw [Vd.check_b, HC7.out] at CK7
      have ra0 : w7.cell? ⟨gb, 0, none⟩ = some (.string nm) := HV7.out.cells 0
      have ra1 : w7.cell? ⟨gb, 1, none⟩ = some (.slice A6 M c6) := HV7.out.cells 1
      clear hw7 k7 q6 z6 h6
      go_wp2_with fail
      with_reducible refine (CK7.out).mono ?_
      rintro e_x9 w_x9 ⟨rfl, hb_x9⟩
      obtain ⟨x9, rfl⟩ := later_is hb_x9
      clear hb_x9
      have hz_x9 := x9.bel.size
      try simp at hz_x9
      have hb9 : Below w.heap.size w x9.val := HB7.out.trans (x9.bel.mono HB7.out.size)
      go_wp2
      go_ret
      exact ⟨rfl, hb9⟩
     ·go_simp
      refine hK.out _ _ ?_ (fun hHeld => ?_)
      ·trivial
      clear hK K
      try simp only [Act.put]
      try simp only [List.setIfInBounds_toArray]
      try simp only [List.set_cons_succ]
      try simp only [List.set_cons_zero]
      refine takeD (i := 4) (oi := _) (v := ?vv24) (d := some 117) rfl (by kernel_rfl) (by kernel_rfl) (by kernel_rfl) (by kernel_rfl) (fun _ _ _ h => h) (Or.inl ⟨by kernel_rfl, ?_⟩) (by assumption) ?_
      rotate_left 1
      ·intro W_ hSw; (try dsimp only at hSw); go_simp; (first | done | with_reducible rfl)
      try simp only [Act.put, List.setIfInBounds_toArray, List.set_cons_zero, List.set_cons_succ]
      refine wpAnyH_ready (rs := [0]) (by kernel_rfl) (by simp) ?_
      refine AllReadyH.cons (o := _) rfl (fun K hK => ?_) AllReadyH.nil
      go_simp
      refine hK.out _ _ ?_ (fun hHeld => ?_)
      ·trivial
      clear hK K
      try simp only [Act.put]
      try simp only [List.setIfInBounds_toArray]
      try simp only [List.set_cons_succ]
      try simp only [List.set_cons_zero]
      obtain ⟨Wc, hWc⟩ : ∃ W, (wz.alloc (.cells #[] 46)).drew = W := ⟨_, rfl⟩
      have BC : Hid (Below wz.heap.size wz Wc) := Lib.hid (by rw [← hWc]; exact (bel_alloc (Below.refl _ _) _).drew)
      have OE : Hid (Wc.ownsRow wz.heap.size 46 3 (.slice (some ⟨gy, 0, none⟩) 0 0) 0 (([] : List Pa).flatMap paF)) := Lib.hid (by
       rw [← hWc, ← HGY.out]
       exact own_below (own_recs_empty paF wz wz.heap.size 46 3 _ rfl (Nat.le_refl _)) (Below.refl _ _).drew)
      have rc1 : Wc.cell? ⟨gb, 1, none⟩ = some (.slice (some ⟨g1, 0, none⟩) k c1) := (HVz.out.to BC.out).cells 1
      rw [hWc, HGY.out]
      clear hWc
      refine wpAnyH_ready (rs := [5]) (by kernel_rfl) (by simp) ?_
      refine AllReadyH.cons (o := _) rfl (fun K hK => ?_) AllReadyH.nil
      (refine step_append_rn _ rfl (.tmp 113) (.tmp 117) 24 rfl paF_length (by decide) paF_one wz.heap.size 46 iP _ 48 Try.underlying24 hifP hp0 hp1 hp2' (by decide) rfl (some ⟨gy, 0, none⟩) 0 0 [] rfl rfl OE.out Wc.heap.size (some ⟨g1, 0, none⟩) (plz.take i) c1 i LTz.out rfl ((HPz.out.rc.below BC.out).more BC.out.size |>.take i) (by simp) i (by omega) (by omega) BC.out.size ?_)
      intro A4 c4 w4 o4 b4
      rw [List.nil_append] at o4
      have B4 : Hid (Below wz.heap.size wz w4) := Lib.hid (BC.out.trans b4)
      have O4 := Lib.hid o4
      refine hK.out _ _ ?_ (fun hHeld => ?_)
      ·trivial
      clear hK K o4 b4
      try simp only [Act.put, List.setIfInBounds_toArray, List.set_cons_zero, List.set_cons_succ]
      have r41 : w4.cell? ⟨gb, 1, none⟩ = some (.slice (some ⟨g1, 0, none⟩) k c1) := (HVz.out.to B4.out).cells 1
      refine wpAnyH_ready (rs := [11]) (by kernel_rfl) (by simp) ?_
      refine AllReadyH.cons (o := _) rfl (fun K hK => ?_) AllReadyH.nil
      (refine step_append_rn _ rfl (.tmp 118) (.tmp 123) 24 rfl paF_length (by decide) paF_one wz.heap.size 46 iP _ 48 Try.underlying24 hifP hp0 hp1 hp2' (by decide) rfl A4 c4 i (plz.take i) rfl LTz.out O4.out w4.heap.size A5 (plz.drop K1) (c1 - K1) (k - K1) LDz.out rfl ((HR5.out.below B4.out).more B4.out.size) HN5.out M HME.out (by omega) B4.out.size ?_)
      intro A6 c6 w6 o6 b6
      have B6 : Hid (Below wz.heap.size wz w6) := Lib.hid (B4.out.trans b6)
      have O6 : Hid (w6.ownsRow wz.heap.size 46 3 (.slice A6 M c6) M ((Vd.out plz i).flatMap paF)) := Lib.hid (by unfold Vd.out; rw [HK1.out]; exact o6)
      refine hK.out _ _ ?_ (fun hHeld => ?_)
      ·trivial
      clear hK K o6 b6
      try simp only [Act.put, List.setIfInBounds_toArray, List.set_cons_zero, List.set_cons_succ]
      have HV6 := Lib.hid (HVz.out.to B6.out)
      have h6 : gb < w6.heap.size := HV6.out.lt
      have q6 : w6.cell? ⟨gb, 1, none⟩ = some (.slice (some ⟨g1, 0, none⟩) k c1) := HV6.out.cells 1
      have z6 : w6.frozen? ⟨gb, 1, none⟩ = false := HV6.out.frozen 1
      refine takeD (i := 12) (oi := _) (v := ?vv25) (d := some 125) rfl (by kernel_rfl) (by kernel_rfl) (by kernel_rfl) (by kernel_rfl) (fun _ _ _ h => h) (Or.inl ⟨by kernel_rfl, ?_⟩) (by assumption) ?_
      rotate_left 1
      ·intro W_ hSw; (try dsimp only at hSw); go_simp; (first | done | with_reducible rfl)
      try simp only [Act.put, List.setIfInBounds_toArray, List.set_cons_zero, List.set_cons_succ]
      refine wpAnyH_ready (rs := [13]) (by kernel_rfl) (by simp) ?_
      refine AllReadyH.cons (o := _) rfl (fun K hK => ?_) AllReadyH.nil
      go_simp
      refine hK.out _ _ ?_ (fun hHeld => ?_)
      ·trivial
      clear hK K
      try simp only [Act.put]
      try simp only [List.setIfInBounds_toArray]
      try simp only [List.set_cons_succ]
      try simp only [List.set_cons_zero]
      refine wpAnyH_done (by kernel_rfl) ?_ _
      obtain ⟨w7, hw7⟩ : ∃ W, w6.setCell ⟨gb, 1, none⟩ (.slice A6 M c6) = W := ⟨_, rfl⟩
      have k7 : Only gb w6 w7 := by rw [← hw7]; exact (Only.refl _ _).set _
      have HV7 : Hid (RowAt w7 gb 26 [.string nm, .slice A6 M c6]) := Lib.hid (by rw [← hw7]; exact HV6.out.set 1 _)
      have HB7 : Hid (Below w.heap.size w w7) := Lib.hid ((HBz.out.trans (B6.out.mono HBz.out.size)).trans (k7.below (by omega)))
      have HP7 := Lib.hid (pas_own O6.out HPz.out.ok B6.out (fun p hp => (Vd.out_sub plz i).subset hp) HWz.out hgbz k7)
      have HS7 := Lib.hid (own_shp O6.out)
      rw [hw7]
      have CK7 := Lib.hid (CK.out A6 (Vd.out plz i) M c6 w7 HLO.out HB7.out HP7.out HS7.out)
      rw [Vd.check_b, HC7.out] at CK7
      have ra0 : w7.cell? ⟨gb, 0, none⟩ = some (.string nm) := HV7.out.cells 0
      have ra1 : w7.cell? ⟨gb, 1, none⟩ = some (.slice A6 M c6) := HV7.out.cells 1
      clear hw7 k7 q6 z6 h6
      go_wp2_with fail
      with_reducible refine (CK7.out).mono ?_
      rintro e_x9 w_x9 ⟨rfl, hb_x9⟩
      obtain ⟨x9, rfl⟩ := later_is hb_x9
      clear hb_x9
      have hz_x9 := x9.bel.size
      try simp at hz_x9
      have hb9 : Below w.heap.size w x9.val := HB7.out.trans (x9.bel.mono HB7.out.size)
      go_wp2
      go_ret
      exact ⟨rfl, hb9⟩
   have gm : decide (0 < m) = true := decide_eq_true (by omega)
   obtain ⟨k2, hk2⟩ : ∃ i, of_ % m = i := ⟨_, rfl⟩
   have hkm : k2 < m := by rw [← hk2]; exact Nat.mod_lt _ hmp
   have hk2I : ((of_ : Int)).tmod (m : Int) = (k2 : Int) := by rw [← hk2]; rfl
   have hkmI : (k2 : Int) < (m : Int) := by omega
   have h0k : (0 : Int) ≤ (k2 : Int) := by omega
   have hm0I : ((m : Int) == 0) = false := beq_eq_false_iff_ne.2 (by omega)
   obtain ⟨K1, hK1⟩ : ∃ q, k2 + 1 = q := ⟨_, rfl⟩
   have hK1I : (k2 : Int) + 1 = (K1 : Int) := by omega
   have hwrap : IntKind.i64.wrap (K1 : Int) = (K1 : Int) := IntWalk.i64_in _ (by omega)
   have hK1m : (K1 : Int) ≤ (m : Int) := by omega
   have hK10 : (0 : Int) ≤ (K1 : Int) := by omega
   have hkpc : (k2 : Int) ≤ (pc : Int) := by have := hSp.le; omega
   obtain ⟨A5, hA5, hR5, hN5⟩ := recs_from HOK.out.rc HMM.out (k := K1) (by omega) hSp
   have HA5 := Lib.hid hA5
   have HR5 := Lib.hid hR5
   have HN5 := Lib.hid hN5
   have HSp := Lib.hid hSp
   have LT : Hid ((sets.take k2).length = k2) := Lib.hid (by rw [List.length_take, HMM.out]; omega)
   have LD : Hid ((sets.drop K1).length = m - K1) := Lib.hid (by rw [List.length_drop, HMM.out])
   have HSA : Hid (∀ w', Below x1.val.heap.size x1.val w' → w'.cell? ⟨gb, 1, none⟩ = some (.slice (some ⟨g1, 0, none⟩) k c1)) := Lib.hid (fun w' hb' => (HV1.out.to hb').cells 1)
   obtain ⟨M, hM⟩ : ∃ q, k2 + (m - K1) = q := ⟨_, rfl⟩
   have hM64 : M ≤ 64 := by omega
   have HME := Lib.hid hM
   clear hk2 hA5 hR5 hN5 hSp hM
   go_upto_region 19 with fail
   refine wp_region_held_drew (S := (fun w' => w'.cell? ⟨gb, 1, none⟩ = some (.slice (some ⟨g1, 0, none⟩) k c1))) (by kernel_rfl) ?_ (fun hHeld => ?_)
   ·exact HSA.out _ ((Below.refl _ _).drew)
   refine takeD (i := 0) (oi := _) (v := ?vv26) (d := some 93) rfl (by kernel_rfl) (by kernel_rfl) (by kernel_rfl) (by kernel_rfl) (fun _ _ _ h => h) (Or.inl ⟨by kernel_rfl, ?_⟩) (by assumption) ?_
   rotate_left 1
   ·intro W_ hSw; (try dsimp only at hSw); go_simp; (first | done | with_reducible rfl)
   try simp only [Act.put, List.setIfInBounds_toArray, List.set_cons_zero, List.set_cons_succ]
   refine takeD (i := 1) (oi := _) (v := ?vv27) (d := some 94) rfl (by kernel_rfl) (by kernel_rfl) (by kernel_rfl) (by kernel_rfl) (fun _ _ _ h => h) (Or.inl ⟨by kernel_rfl, ?_⟩) (by assumption) ?_
   rotate_left 1
   ·intro W_ hSw; (try dsimp only at hSw); go_simp; (first | done | with_reducible rfl)
   try simp only [Act.put, List.setIfInBounds_toArray, List.set_cons_zero, List.set_cons_succ]
   refine takeD (i := 2) (oi := _) (v := ?vv28) (d := some 95) rfl (by kernel_rfl) (by kernel_rfl) (by kernel_rfl) (by kernel_rfl) (fun _ _ _ h => h) (Or.inl ⟨by kernel_rfl, ?_⟩) (by assumption) ?_
   rotate_left 1
   ·intro W_ hSw; (try dsimp only at hSw); go_simp; (first | done | with_reducible rfl)
   try simp only [Act.put, List.setIfInBounds_toArray, List.set_cons_zero, List.set_cons_succ]
   refine takeD (i := 4) (oi := _) (v := ?vv29) (d := some 97) rfl (by kernel_rfl) (by kernel_rfl) (by kernel_rfl) (by kernel_rfl) (fun _ _ _ h => h) (Or.inl ⟨by kernel_rfl, ?_⟩) (by assumption) ?_
   rotate_left 1
   ·intro W_ hSw; (try dsimp only at hSw); go_simp; (first | done | with_reducible rfl)
   try simp only [Act.put, List.setIfInBounds_toArray, List.set_cons_zero, List.set_cons_succ]
   refine takeD (i := 5) (oi := _) (v := ?vv30) (d := some 98) rfl (by kernel_rfl) (by kernel_rfl) (by kernel_rfl) (by kernel_rfl) (fun _ _ _ h => h) (Or.inl ⟨by kernel_rfl, ?_⟩) (by assumption) ?_
   rotate_left 1
   ·intro W_ hSw; (try dsimp only at hSw); go_simp; (first | done | with_reducible rfl)
   try simp only [Act.put, List.setIfInBounds_toArray, List.set_cons_zero, List.set_cons_succ]
   refine takeD (i := 6) (oi := _) (v := ?vv31) (d := some 99) rfl (by kernel_rfl) (by kernel_rfl) (by kernel_rfl) (by kernel_rfl) (fun _ _ _ h => h) (Or.inl ⟨by kernel_rfl, ?_⟩) (by assumption) ?_
   rotate_left 1
   ·intro W_ hSw; (try dsimp only at hSw); go_simp; (first | done | with_reducible rfl)
   try simp only [Act.put, List.setIfInBounds_toArray, List.set_cons_zero, List.set_cons_succ]
   refine takeD (i := 8) (oi := _) (v := ?vv32) (d := some 101) rfl (by kernel_rfl) (by kernel_rfl) (by kernel_rfl) (by kernel_rfl) (fun _ _ _ h => h) (Or.inl ⟨by kernel_rfl, ?_⟩) (by assumption) ?_
   rotate_left 1
   ·intro W_ hSw; (try dsimp only at hSw); go_simp; (first | done | with_reducible rfl)
   try simp only [Act.put, List.setIfInBounds_toArray, List.set_cons_zero, List.set_cons_succ]
   refine takeD (i := 9) (oi := _) (v := ?vv33) (d := some 102) rfl (by kernel_rfl) (by kernel_rfl) (by kernel_rfl) (by kernel_rfl) (fun _ _ _ h => h) (Or.inl ⟨by kernel_rfl, ?_⟩) (by assumption) ?_
   rotate_left 1
   ·intro W_ hSw; (try dsimp only at hSw); go_simp; (first | done | with_reducible rfl)
   try simp only [Act.put, List.setIfInBounds_toArray, List.set_cons_zero, List.set_cons_succ]
   refine takeD (i := 10) (oi := _) (v := ?vv34) (d := some 103) rfl (by kernel_rfl) (by kernel_rfl) (by kernel_rfl) (by kernel_rfl) (fun _ _ _ h => h) (Or.inl ⟨by kernel_rfl, ?_⟩) (by assumption) ?_
   rotate_left 1
   ·intro W_ hSw; (try dsimp only at hSw); go_simp; (first | done | with_reducible rfl)
   try simp only [Act.put, List.setIfInBounds_toArray, List.set_cons_zero, List.set_cons_succ]
   refine takeD (i := 11) (oi := _) (v := ?vv35) (d := some 104) rfl (by kernel_rfl) (by kernel_rfl) (by kernel_rfl) (by kernel_rfl) (fun _ _ _ h => h) (Or.inl ⟨by kernel_rfl, ?_⟩) (by assumption) ?_
   rotate_left 1
   ·intro W_ hSw; (try dsimp only at hSw); go_simp; (first | done | with_reducible rfl)
   try simp only [Act.put, List.setIfInBounds_toArray, List.set_cons_zero, List.set_cons_succ]
   rw [HA5.out]
   refine wpAnyH_ready (rs := [3]) (by kernel_rfl) (by simp) ?_
   refine AllReadyH.cons (o := _) rfl (fun K hK => ?_) AllReadyH.nil
   go_simp
   refine hK.out _ _ ?_ (fun hHeld => ?_)
   ·exact HSA.out _ (bel_alloc (Below.refl x1.val.heap.size x1.val) _).drew
   clear hK K
   try simp only [Act.put]
   try simp only [List.setIfInBounds_toArray]
   try simp only [List.set_cons_succ]
   try simp only [List.set_cons_zero]
   obtain ⟨gx, hgx⟩ : ∃ g, x1.val.heap.size = g := ⟨_, rfl⟩
   obtain ⟨Wa, hWa⟩ : ∃ W, (x1.val.alloc (.cells #[] 48)).drew = W := ⟨_, rfl⟩
   have BA : Hid (Below x1.val.heap.size x1.val Wa) := Lib.hid (by rw [← hWa]; exact (bel_alloc (Below.refl _ _) _).drew)
   have OE : Hid (Wa.ownsRow x1.val.heap.size 48 5 (.slice (some ⟨gx, 0, none⟩) 0 0) 0 (([] : List St).flatMap stF)) := Lib.hid (by
    rw [← hWa, ← hgx]
    exact own_below (own_recs_empty stF x1.val x1.val.heap.size 48 5 _ rfl (Nat.le_refl _)) (Below.refl _ _).drew)
   rw [hWa, hgx]
   have hgxe := Lib.hid hgx
   clear hWa hgx
   have LW := Lib.hid ((HOK.out.rc.below BA.out).more BA.out.size)
   refine wpAnyH_ready (rs := [7]) (by kernel_rfl) (by simp) ?_
   refine AllReadyH.cons (o := _) rfl (fun K hK => ?_) AllReadyH.nil
   (refine step_append_rn _ rfl (.tmp 96) (.tmp 99) 44 rfl stF_length (by decide) stF_one x1.val.heap.size 48 iS _ 56 Try.underlying44 hifS hs0 hs1 hs2 (by decide) rfl (some ⟨gx, 0, none⟩) 0 0 [] rfl rfl OE.out Wa.heap.size PA (sets.take k2) pc k2 LT.out rfl (LW.out.take k2) HSp.out.nl k2 (by omega) (by omega) BA.out.size ?_)
   intro A4 c4 w4 o4 b4
   rw [List.nil_append] at o4
   have B4 : Hid (Below x1.val.heap.size x1.val w4) := Lib.hid (BA.out.trans b4)
   have O4 := Lib.hid o4
   refine hK.out _ _ ?_ (fun hHeld => ?_)
   ·exact HSA.out _ B4.out
   clear hK K o4 b4
   try simp only [Act.put, List.setIfInBounds_toArray, List.set_cons_zero, List.set_cons_succ]
   have LW4 := Lib.hid ((HR5.out.below B4.out).more B4.out.size)
   refine wpAnyH_ready (rs := [12]) (by kernel_rfl) (by simp) ?_
   refine AllReadyH.cons (o := _) rfl (fun K hK => ?_) AllReadyH.nil
   (refine step_append_rn _ rfl (.tmp 100) (.tmp 104) 44 rfl stF_length (by decide) stF_one x1.val.heap.size 48 iS _ 56 Try.underlying44 hifS hs0 hs1 hs2 (by decide) rfl A4 c4 k2 (sets.take k2) rfl LT.out O4.out w4.heap.size A5 (sets.drop K1) (pc - K1) (m - K1) LD.out rfl LW4.out HN5.out M HME.out (by omega) B4.out.size ?_)
   intro A6 c6 w6 o6 b6
   have B6 : Hid (Below x1.val.heap.size x1.val w6) := Lib.hid (B4.out.trans b6)
   have O6 : Hid (SL w6 x1.val.heap.size A6 M c6 (Vd.out sets k2)) := Lib.hid (by unfold SL Vd.out; rw [hK1]; exact o6)
   refine hK.out _ _ ?_ (fun hHeld => ?_)
   ·exact HSA.out _ B6.out
   clear hK K o6 b6
   try simp only [Act.put, List.setIfInBounds_toArray, List.set_cons_zero, List.set_cons_succ]
   have h6 : g1 < w6.heap.size := Nat.lt_of_lt_of_le hgl B6.out.size
   have q6 : w6.cell? ⟨g1, i * 3 + 2, none⟩ = some (.slice PA m pc) := (B6.out.cell (p := ⟨g1, i * 3 + 2, none⟩) hgl).trans d2
   have HP6 := Lib.hid (HP1.out.to B6.out)
   have z6 : w6.frozen? ⟨g1, i * 3 + 2, none⟩ = false := HP6.out.frozen _
   have ne1 : g1 ≠ gb := by omega
   have HV6 := Lib.hid (HV1.out.to B6.out)
   refine takeD (i := 13) (oi := _) (v := ?vv36) (d := some 106) rfl (by kernel_rfl) (by kernel_rfl) (by kernel_rfl) (by kernel_rfl) (fun _ _ _ h => h) (Or.inl ⟨by kernel_rfl, ?_⟩) (by assumption) ?_
   rotate_left 1
   ·intro W_ hSw; (try dsimp only at hSw); go_simp; (first | done | with_reducible rfl)
   try simp only [Act.put, List.setIfInBounds_toArray, List.set_cons_zero, List.set_cons_succ]
   refine takeD (i := 14) (oi := _) (v := ?vv37) (d := some 107) rfl (by kernel_rfl) (by kernel_rfl) (by kernel_rfl) (by kernel_rfl) (fun _ _ _ h => h) (Or.inl ⟨by kernel_rfl, ?_⟩) (by assumption) ?_
   rotate_left 1
   ·intro W_ hSw; (try dsimp only at hSw); go_simp; (first | done | with_reducible rfl)
   try simp only [Act.put, List.setIfInBounds_toArray, List.set_cons_zero, List.set_cons_succ]
   refine wpAnyH_ready (rs := [15]) (by kernel_rfl) (by simp) ?_
   refine AllReadyH.cons (o := _) rfl (fun K hK => ?_) AllReadyH.nil
   go_simp
   refine hK.out _ _ ?_ (fun hHeld => ?_)
   ·exact (HV6.out.other ne1 _).cells 1
   clear hK K
   try simp only [Act.put]
   try simp only [List.setIfInBounds_toArray]
   try simp only [List.set_cons_succ]
   try simp only [List.set_cons_zero]
   refine wpAnyH_done (by kernel_rfl) ?_ _
   have HLE := Lib.hid O6.out.len
   have HPp : Hid ((Pa.mk slave line (Vd.out sets k2) A6 c6).Ok w6 w6.heap.size) := Lib.hid (O6.out.part (fun s hs => HOK.out.fit s ((Vd.out_sub sets k2).subset hs)) slave _ HOK.out.line)
   obtain ⟨wz, hwz⟩ : ∃ W, w6.setCell ⟨g1, i * 3 + 2, none⟩ (.slice A6 M c6) = W := ⟨_, rfl⟩
   have kz : Only g1 w6 wz := by rw [← hwz]; exact (Only.refl _ _).set _
   have HVz : Hid (RowAt wz gb 26 [.string nm, .slice (some ⟨g1, 0, none⟩) k c1]) := Lib.hid (HV6.out.only kz (by omega))
   have HBz : Hid (Below w.heap.size w wz) := Lib.hid ((hb1.trans (B6.out.mono (by omega))).trans (kz.below (by omega)))
   have HPS : Hid (Pas wz wz.heap.size (some ⟨g1, 0, none⟩) (pl.set i ⟨slave, line, Vd.out sets k2, A6, c6⟩)) := Lib.hid (by
    have h1 := HP6.out.put HPi.out ⟨slave, line, Vd.out sets k2, A6, c6⟩ rfl rfl HPp.out (fun _ a ha => by have := (own_at_s O6.out a ha).1; omega) q6
    dsimp only at h1
    rw [HLE.out, hwz] at h1
    rw [kz.size]
    exact h1)
   have HCS : Hid ((Vd.chk l nm ((pl.set i ⟨slave, line, Vd.out sets k2, A6, c6⟩).map Pa.b)).1 = 0) := Lib.hid (by
    rw [List.map_set]
    exact Vd.set_ok HC1.out (p := ⟨slave, line, sets⟩) (by rw [List.getElem?_map, HPi.out]; rfl) k2)
   obtain ⟨plz, HPz, HLz, HCz, HWz⟩ : ∃ plz : List Pa, Hid (Pas wz wz.heap.size (some ⟨g1, 0, none⟩) plz) ∧ Hid (plz.length = k) ∧ Hid ((Vd.chk l nm (plz.map Pa.b)).1 = 0) ∧ Hid (∀ p ∈ plz, ∀ a, p.A = some a → gb < a.block) :=
    ⟨_, HPS, Lib.hid (by rw [List.length_set]; exact HP1.out.len), HCS, Lib.hid (fun p hp a ha => by
     rcases List.mem_or_eq_of_mem_set hp with hp | rfl
     ·exact HP1.out.low p hp a ha
     ·have := (own_at_s O6.out a ha).1; omega)⟩
   have hgbz : gb < wz.heap.size := HVz.out.lt
   have hg1z : g1 < wz.heap.size := by rw [kz.size]; exact h6
   have HSz := Lib.hid HP1.out.shp
   rw [hwz]
   clear hwz kz HV1 HP1 hb1 hgb1 rb0 rb1 d0 d1 d2 hgl q6 z6 h6 HV6 HP6 HPp HPS HCS HLE O6 B6 B4 BA OE LW LW4 O4
   have CK2 := Lib.hid (CK.out (some ⟨g1, 0, none⟩) plz k c1 wz HLz.out HBz.out HPz.out HSz.out)
   obtain ⟨⟨s1, s3⟩, hc2⟩ : ∃ r, Vd.chk l nm (plz.map Pa.b) = r := ⟨_, rfl⟩
   rw [Vd.check_b, hc2] at CK2
   obtain rfl : s1 = 0 := by have h1 := HCz.out; rw [hc2] at h1; exact h1
   clear hc2
   have rb0 : wz.cell? ⟨gb, 0, none⟩ = some (.string nm) := HVz.out.cells 0
   have rb1 : wz.cell? ⟨gb, 1, none⟩ = some (.slice (some ⟨g1, 0, none⟩) k c1) := HVz.out.cells 1
   have kfl3 : ∀ W, (Instr.field 32 (faultV (0, s3)) 0).run Try.prog W = .ok (.int .i64 0) W := fun W => fault_fld0 _ _ W
   go_wp2_with fail
   with_reducible refine (CK2.out).mono ?_
   rintro e_x2 w_x2 ⟨rfl, hb_x2⟩
   obtain ⟨x2, rfl⟩ := later_is hb_x2
   clear hb_x2
   have hz_x2 := x2.bel.size
   try simp at hz_x2
   replace HVz := Lib.hid (HVz.out.to x2.bel)
   replace HPz := Lib.hid (HPz.out.to x2.bel)
   replace HBz : Hid (Below w.heap.size w x2.val) := Lib.hid (HBz.out.trans (x2.bel.mono HBz.out.size))
   clear rb0 rb1
   go_upto_region 22 with fail
   have hgby : gb < x2.val.heap.size := HVz.out.lt
   clear hgbz hg1z
   obtain ⟨wz, hwz⟩ : ∃ W, x2.val = W := ⟨_, rfl⟩
   rw [hwz] at HVz HPz HBz hgby ⊢
   clear hwz kfl3 CK2 hz_x2
   clear x2
   have hgbz := hgby
   clear hgby
   have hK1e : ∃ q, i + 1 = q := ⟨_, rfl⟩
   obtain ⟨K1, hK1⟩ := hK1e
   have HK1 := Lib.hid hK1
   have hK1I : (i : Int) + 1 = (K1 : Int) := by omega
   have hwrap : IntKind.i64.wrap (K1 : Int) = (K1 : Int) := IntWalk.i64_in _ (by omega)
   have hK1m : (K1 : Int) ≤ (k : Int) := by omega
   have hK10 : (0 : Int) ≤ (K1 : Int) := by omega
   have hkpc : (i : Int) ≤ (c1 : Int) := by have := HSz.out.le; omega
   obtain ⟨A5, hA5, hR5, hN5⟩ := recs_from HPz.out.rc HLz.out (k := K1) (by omega) HSz.out
   have HA5 := Lib.hid hA5
   have HR5 := Lib.hid hR5
   have HN5 := Lib.hid hN5
   have LTz : Hid ((plz.take i).length = i) := Lib.hid (by rw [List.length_take, HLz.out]; omega)
   have LDz : Hid ((plz.drop K1).length = k - K1) := Lib.hid (by rw [List.length_drop, HLz.out])
   have hMe : ∃ q, i + (k - K1) = q := ⟨_, rfl⟩
   obtain ⟨M, hM⟩ := hMe
   have hM8 : M ≤ 8 := by omega
   have HME := Lib.hid hM
   have HLO : Hid ((Vd.out plz i).length = M) := Lib.hid (by
    unfold Vd.out
    rw [List.length_append, LTz.out, HK1.out, LDz.out, HME.out])
   obtain ⟨⟨s1, s2⟩, hc7⟩ : ∃ r, Vd.chk l nm ((Vd.out plz i).map Pa.b) = r := ⟨_, rfl⟩
   obtain rfl : s1 = 0 := by
    have h1 := Vd.out_ok HCz.out i
    have h2 : (Vd.out plz i).map Pa.b = Vd.out (plz.map Pa.b) i := by
     unfold Vd.out
     rw [List.map_append, List.map_take, List.map_drop]
    rw [← h2, hc7] at h1
    exact h1
   have HC7 := Lib.hid hc7
   have kfl7 : ∀ W, (Instr.field 32 (faultV (0, s2)) 0).run Try.prog W = .ok (.int .i64 0) W := fun W => fault_fld0 _ _ W
   have hgye : ∃ g, wz.heap.size = g := ⟨_, rfl⟩
   obtain ⟨gy, hgy⟩ := hgye
   have HGY := Lib.hid hgy
   have rb1 : wz.cell? ⟨gb, 1, none⟩ = some (.slice (some ⟨g1, 0, none⟩) k c1) := HVz.out.cells 1
   clear hK1 hA5 hR5 hN5 hM hc7 hgy
   refine wp_region_held_drew (S := (fun _ => True)) (by kernel_rfl) ?_ (fun hHeld => ?_)
   ·trivial
   refine takeD (i := 1) (oi := _) (v := ?vv38) (d := some 114) rfl (by kernel_rfl) (by kernel_rfl) (by kernel_rfl) (by kernel_rfl) (fun _ _ _ h => h) (Or.inl ⟨by kernel_rfl, ?_⟩) (by assumption) ?_
   rotate_left 1
   ·intro W_ hSw; (try dsimp only at hSw); go_simp; (first | done | with_reducible rfl)
   try simp only [Act.put, List.setIfInBounds_toArray, List.set_cons_zero, List.set_cons_succ]
   refine takeD (i := 3) (oi := _) (v := ?vv39) (d := some 116) rfl (by kernel_rfl) (by kernel_rfl) (by kernel_rfl) (by kernel_rfl) (fun _ _ _ h => h) (Or.inl ⟨by kernel_rfl, ?_⟩) (by assumption) ?_
   rotate_left 1
   ·intro W_ hSw; (try dsimp only at hSw); go_simp; (first | done | with_reducible rfl)
   try simp only [Act.put, List.setIfInBounds_toArray, List.set_cons_zero, List.set_cons_succ]
   refine takeD (i := 6) (oi := _) (v := ?vv40) (d := some 119) rfl (by kernel_rfl) (by kernel_rfl) (by kernel_rfl) (by kernel_rfl) (fun _ _ _ h => h) (Or.inl ⟨by kernel_rfl, ?_⟩) (by assumption) ?_
   rotate_left 1
   ·intro W_ hSw; (try dsimp only at hSw); go_simp; (first | done | with_reducible rfl)
   try simp only [Act.put, List.setIfInBounds_toArray, List.set_cons_zero, List.set_cons_succ]
   refine takeD (i := 8) (oi := _) (v := ?vv41) (d := some 121) rfl (by kernel_rfl) (by kernel_rfl) (by kernel_rfl) (by kernel_rfl) (fun _ _ _ h => h) (Or.inl ⟨by kernel_rfl, ?_⟩) (by assumption) ?_
   rotate_left 1
   ·intro W_ hSw; (try dsimp only at hSw); go_simp; (first | done | with_reducible rfl)
   try simp only [Act.put, List.setIfInBounds_toArray, List.set_cons_zero, List.set_cons_succ]
   refine takeD (i := 9) (oi := _) (v := ?vv42) (d := some 122) rfl (by kernel_rfl) (by kernel_rfl) (by kernel_rfl) (by kernel_rfl) (fun _ _ _ h => h) (Or.inl ⟨by kernel_rfl, ?_⟩) (by assumption) ?_
   rotate_left 1
   ·intro W_ hSw; (try dsimp only at hSw); go_simp; (first | done | with_reducible rfl)
   try simp only [Act.put, List.setIfInBounds_toArray, List.set_cons_zero, List.set_cons_succ]
   refine wpAnyH_ready (rs := [0, 2, 7]) (by kernel_rfl) (by simp) ?_
   refine AllReadyH.cons (o := _) rfl (fun K hK => ?_) (AllReadyH.cons (o := _) rfl (fun K hK => ?_) (AllReadyH.cons (o := _) rfl (fun K hK => ?_) AllReadyH.nil))
   ·go_simp
    refine hK.out _ _ ?_ (fun hHeld => ?_)
    ·trivial
    clear hK K
    try simp only [Act.put]
    try simp only [List.setIfInBounds_toArray]
    try simp only [List.set_cons_succ]
    try simp only [List.set_cons_zero]
    obtain ⟨Wc, hWc⟩ : ∃ W, (wz.alloc (.cells #[] 46)).drew = W := ⟨_, rfl⟩
    have BC : Hid (Below wz.heap.size wz Wc) := Lib.hid (by rw [← hWc]; exact (bel_alloc (Below.refl _ _) _).drew)
    have OE : Hid (Wc.ownsRow wz.heap.size 46 3 (.slice (some ⟨gy, 0, none⟩) 0 0) 0 (([] : List Pa).flatMap paF)) := Lib.hid (by
     rw [← hWc, ← HGY.out]
     exact own_below (own_recs_empty paF wz wz.heap.size 46 3 _ rfl (Nat.le_refl _)) (Below.refl _ _).drew)
    have rc1 : Wc.cell? ⟨gb, 1, none⟩ = some (.slice (some ⟨g1, 0, none⟩) k c1) := (HVz.out.to BC.out).cells 1
    rw [hWc, HGY.out]
    clear hWc
    refine wpAnyH_ready (rs := [2, 7]) (by kernel_rfl) (by simp) ?_
    refine AllReadyH.cons (o := _) rfl (fun K hK => ?_) (AllReadyH.cons (o := _) rfl (fun K hK => ?_) AllReadyH.nil)
    ·go_simp
     refine hK.out _ _ ?_ (fun hHeld => ?_)
     ·trivial
     clear hK K
     try simp only [Act.put]
     try simp only [List.setIfInBounds_toArray]
     try simp only [List.set_cons_succ]
     try simp only [List.set_cons_zero]
     refine takeD (i := 4) (oi := _) (v := ?vv43) (d := some 117) rfl (by kernel_rfl) (by kernel_rfl) (by kernel_rfl) (by kernel_rfl) (fun _ _ _ h => h) (Or.inl ⟨by kernel_rfl, ?_⟩) (by assumption) ?_
     rotate_left 1
     ·intro W_ hSw; (try dsimp only at hSw); go_simp; (first | done | with_reducible rfl)
     try simp only [Act.put, List.setIfInBounds_toArray, List.set_cons_zero, List.set_cons_succ]
     refine wpAnyH_ready (rs := [5, 7]) (by kernel_rfl) (by simp) ?_
     refine AllReadyH.cons (o := _) rfl (fun K hK => ?_) (AllReadyH.cons (o := _) rfl (fun K hK => ?_) AllReadyH.nil)
     ·(refine step_append_rn _ rfl (.tmp 113) (.tmp 117) 24 rfl paF_length (by decide) paF_one wz.heap.size 46 iP _ 48 Try.underlying24 hifP hp0 hp1 hp2' (by decide) rfl (some ⟨gy, 0, none⟩) 0 0 [] rfl rfl OE.out Wc.heap.size (some ⟨g1, 0, none⟩) (plz.take i) c1 i LTz.out rfl ((HPz.out.rc.below BC.out).more BC.out.size |>.take i) (by simp) i (by omega) (by omega) BC.out.size ?_)
      intro A4 c4 w4 o4 b4
      rw [List.nil_append] at o4
      have B4 : Hid (Below wz.heap.size wz w4) := Lib.hid (BC.out.trans b4)
      have O4 := Lib.hid o4
      refine hK.out _ _ ?_ (fun hHeld => ?_)
      ·trivial
      clear hK K o4 b4
      try simp only [Act.put, List.setIfInBounds_toArray, List.set_cons_zero, List.set_cons_succ]
      have r41 : w4.cell? ⟨gb, 1, none⟩ = some (.slice (some ⟨g1, 0, none⟩) k c1) := (HVz.out.to B4.out).cells 1
      refine wpAnyH_ready (rs := [7]) (by kernel_rfl) (by simp) ?_
      refine AllReadyH.cons (o := _) rfl (fun K hK => ?_) AllReadyH.nil
      go_simp
      refine hK.out _ _ ?_ (fun hHeld => ?_)
      ·trivial
      clear hK K
      try simp only [Act.put]
      try simp only [List.setIfInBounds_toArray]
      try simp only [List.set_cons_succ]
      try simp only [List.set_cons_zero]
      refine takeD (i := 10) (oi := _) (v := ?vv44) (d := some 123) rfl (by kernel_rfl) (by kernel_rfl) (by kernel_rfl) (by kernel_rfl) (fun _ _ _ h => h) (Or.inl ⟨by kernel_rfl, ?_⟩) (by assumption) ?_
      rotate_left 1
      ·intro W_ hSw; (try dsimp only at hSw); go_simp; (first | done | with_reducible rfl)
      try simp only [Act.put, List.setIfInBounds_toArray, List.set_cons_zero, List.set_cons_succ]
      rw [HA5.out]
      refine wpAnyH_ready (rs := [11]) (by kernel_rfl) (by simp) ?_
      refine AllReadyH.cons (o := _) rfl (fun K hK => ?_) AllReadyH.nil
      (refine step_append_rn _ rfl (.tmp 118) (.tmp 123) 24 rfl paF_length (by decide) paF_one wz.heap.size 46 iP _ 48 Try.underlying24 hifP hp0 hp1 hp2' (by decide) rfl A4 c4 i (plz.take i) rfl LTz.out O4.out w4.heap.size A5 (plz.drop K1) (c1 - K1) (k - K1) LDz.out rfl ((HR5.out.below B4.out).more B4.out.size) HN5.out M HME.out (by omega) B4.out.size ?_)
      intro A6 c6 w6 o6 b6
      have B6 : Hid (Below wz.heap.size wz w6) := Lib.hid (B4.out.trans b6)
      have O6 : Hid (w6.ownsRow wz.heap.size 46 3 (.slice A6 M c6) M ((Vd.out plz i).flatMap paF)) := Lib.hid (by unfold Vd.out; rw [HK1.out]; exact o6)
      refine hK.out _ _ ?_ (fun hHeld => ?_)
      ·trivial
      clear hK K o6 b6
      try simp only [Act.put, List.setIfInBounds_toArray, List.set_cons_zero, List.set_cons_succ]
      have HV6 := Lib.hid (HVz.out.to B6.out)
      have h6 : gb < w6.heap.size := HV6.out.lt
      have q6 : w6.cell? ⟨gb, 1, none⟩ = some (.slice (some ⟨g1, 0, none⟩) k c1) := HV6.out.cells 1
      have z6 : w6.frozen? ⟨gb, 1, none⟩ = false := HV6.out.frozen 1
      refine takeD (i := 12) (oi := _) (v := ?vv45) (d := some 125) rfl (by kernel_rfl) (by kernel_rfl) (by kernel_rfl) (by kernel_rfl) (fun _ _ _ h => h) (Or.inl ⟨by kernel_rfl, ?_⟩) (by assumption) ?_
      rotate_left 1
      ·intro W_ hSw; (try dsimp only at hSw); go_simp; (first | done | with_reducible rfl)
      try simp only [Act.put, List.setIfInBounds_toArray, List.set_cons_zero, List.set_cons_succ]
      refine wpAnyH_ready (rs := [13]) (by kernel_rfl) (by simp) ?_
      refine AllReadyH.cons (o := _) rfl (fun K hK => ?_) AllReadyH.nil
      go_simp
      refine hK.out _ _ ?_ (fun hHeld => ?_)
      ·trivial
      clear hK K
      try simp only [Act.put]
      try simp only [List.setIfInBounds_toArray]
      try simp only [List.set_cons_succ]
      try simp only [List.set_cons_zero]
      refine wpAnyH_done (by kernel_rfl) ?_ _
      obtain ⟨w7, hw7⟩ : ∃ W, w6.setCell ⟨gb, 1, none⟩ (.slice A6 M c6) = W := ⟨_, rfl⟩
      have k7 : Only gb w6 w7 := by rw [← hw7]; exact (Only.refl _ _).set _
      have HV7 : Hid (RowAt w7 gb 26 [.string nm, .slice A6 M c6]) := Lib.hid (by rw [← hw7]; exact HV6.out.set 1 _)
      have HB7 : Hid (Below w.heap.size w w7) := Lib.hid ((HBz.out.trans (B6.out.mono HBz.out.size)).trans (k7.below (by omega)))
      have HP7 := Lib.hid (pas_own O6.out HPz.out.ok B6.out (fun p hp => (Vd.out_sub plz i).subset hp) HWz.out hgbz k7)
      have HS7 := Lib.hid (own_shp O6.out)
      rw [hw7]
      have CK7 := Lib.hid (CK.out A6 (Vd.out plz i) M c6 w7 HLO.out HB7.out HP7.out HS7.out)
      rw [Vd.check_b, HC7.out] at CK7
      have ra0 : w7.cell? ⟨gb, 0, none⟩ = some (.string nm) := HV7.out.cells 0
      have ra1 : w7.cell? ⟨gb, 1, none⟩ = some (.slice A6 M c6) := HV7.out.cells 1
      clear hw7 k7 q6 z6 h6
      go_wp2_with fail
      with_reducible refine (CK7.out).mono ?_
      rintro e_x9 w_x9 ⟨rfl, hb_x9⟩
      obtain ⟨x9, rfl⟩ := later_is hb_x9
      clear hb_x9
      have hz_x9 := x9.bel.size
      try simp at hz_x9
      have hb9 : Below w.heap.size w x9.val := HB7.out.trans (x9.bel.mono HB7.out.size)
      go_wp2
      go_ret
      exact ⟨rfl, hb9⟩
     ·go_simp
      refine hK.out _ _ ?_ (fun hHeld => ?_)
      ·trivial
      clear hK K
      try simp only [Act.put]
      try simp only [List.setIfInBounds_toArray]
      try simp only [List.set_cons_succ]
      try simp only [List.set_cons_zero]
      refine takeD (i := 10) (oi := _) (v := ?vv46) (d := some 123) rfl (by kernel_rfl) (by kernel_rfl) (by kernel_rfl) (by kernel_rfl) (fun _ _ _ h => h) (Or.inl ⟨by kernel_rfl, ?_⟩) (by assumption) ?_
      rotate_left 1
      ·intro W_ hSw; (try dsimp only at hSw); go_simp; (first | done | with_reducible rfl)
      try simp only [Act.put, List.setIfInBounds_toArray, List.set_cons_zero, List.set_cons_succ]
      rw [HA5.out]
      refine wpAnyH_ready (rs := [5]) (by kernel_rfl) (by simp) ?_
      refine AllReadyH.cons (o := _) rfl (fun K hK => ?_) AllReadyH.nil
      (refine step_append_rn _ rfl (.tmp 113) (.tmp 117) 24 rfl paF_length (by decide) paF_one wz.heap.size 46 iP _ 48 Try.underlying24 hifP hp0 hp1 hp2' (by decide) rfl (some ⟨gy, 0, none⟩) 0 0 [] rfl rfl OE.out Wc.heap.size (some ⟨g1, 0, none⟩) (plz.take i) c1 i LTz.out rfl ((HPz.out.rc.below BC.out).more BC.out.size |>.take i) (by simp) i (by omega) (by omega) BC.out.size ?_)
      intro A4 c4 w4 o4 b4
      rw [List.nil_append] at o4
      have B4 : Hid (Below wz.heap.size wz w4) := Lib.hid (BC.out.trans b4)
      have O4 := Lib.hid o4
      refine hK.out _ _ ?_ (fun hHeld => ?_)
      ·trivial
      clear hK K o4 b4
      try simp only [Act.put, List.setIfInBounds_toArray, List.set_cons_zero, List.set_cons_succ]
      have r41 : w4.cell? ⟨gb, 1, none⟩ = some (.slice (some ⟨g1, 0, none⟩) k c1) := (HVz.out.to B4.out).cells 1
      refine wpAnyH_ready (rs := [11]) (by kernel_rfl) (by simp) ?_
      refine AllReadyH.cons (o := _) rfl (fun K hK => ?_) AllReadyH.nil
      (refine step_append_rn _ rfl (.tmp 118) (.tmp 123) 24 rfl paF_length (by decide) paF_one wz.heap.size 46 iP _ 48 Try.underlying24 hifP hp0 hp1 hp2' (by decide) rfl A4 c4 i (plz.take i) rfl LTz.out O4.out w4.heap.size A5 (plz.drop K1) (c1 - K1) (k - K1) LDz.out rfl ((HR5.out.below B4.out).more B4.out.size) HN5.out M HME.out (by omega) B4.out.size ?_)
      intro A6 c6 w6 o6 b6
      have B6 : Hid (Below wz.heap.size wz w6) := Lib.hid (B4.out.trans b6)
      have O6 : Hid (w6.ownsRow wz.heap.size 46 3 (.slice A6 M c6) M ((Vd.out plz i).flatMap paF)) := Lib.hid (by unfold Vd.out; rw [HK1.out]; exact o6)
      refine hK.out _ _ ?_ (fun hHeld => ?_)
      ·trivial
      clear hK K o6 b6
      try simp only [Act.put, List.setIfInBounds_toArray, List.set_cons_zero, List.set_cons_succ]
      have HV6 := Lib.hid (HVz.out.to B6.out)
      have h6 : gb < w6.heap.size := HV6.out.lt
      have q6 : w6.cell? ⟨gb, 1, none⟩ = some (.slice (some ⟨g1, 0, none⟩) k c1) := HV6.out.cells 1
      have z6 : w6.frozen? ⟨gb, 1, none⟩ = false := HV6.out.frozen 1
      refine takeD (i := 12) (oi := _) (v := ?vv47) (d := some 125) rfl (by kernel_rfl) (by kernel_rfl) (by kernel_rfl) (by kernel_rfl) (fun _ _ _ h => h) (Or.inl ⟨by kernel_rfl, ?_⟩) (by assumption) ?_
      rotate_left 1
      ·intro W_ hSw; (try dsimp only at hSw); go_simp; (first | done | with_reducible rfl)
      try simp only [Act.put, List.setIfInBounds_toArray, List.set_cons_zero, List.set_cons_succ]
      refine wpAnyH_ready (rs := [13]) (by kernel_rfl) (by simp) ?_
      refine AllReadyH.cons (o := _) rfl (fun K hK => ?_) AllReadyH.nil
      go_simp
      refine hK.out _ _ ?_ (fun hHeld => ?_)
      ·trivial
      clear hK K
      try simp only [Act.put]
      try simp only [List.setIfInBounds_toArray]
      try simp only [List.set_cons_succ]
      try simp only [List.set_cons_zero]
      refine wpAnyH_done (by kernel_rfl) ?_ _
      obtain ⟨w7, hw7⟩ : ∃ W, w6.setCell ⟨gb, 1, none⟩ (.slice A6 M c6) = W := ⟨_, rfl⟩
      have k7 : Only gb w6 w7 := by rw [← hw7]; exact (Only.refl _ _).set _
      have HV7 : Hid (RowAt w7 gb 26 [.string nm, .slice A6 M c6]) := Lib.hid (by rw [← hw7]; exact HV6.out.set 1 _)
      have HB7 : Hid (Below w.heap.size w w7) := Lib.hid ((HBz.out.trans (B6.out.mono HBz.out.size)).trans (k7.below (by omega)))
      have HP7 := Lib.hid (pas_own O6.out HPz.out.ok B6.out (fun p hp => (Vd.out_sub plz i).subset hp) HWz.out hgbz k7)
      have HS7 := Lib.hid (own_shp O6.out)
      rw [hw7]
      have CK7 := Lib.hid (CK.out A6 (Vd.out plz i) M c6 w7 HLO.out HB7.out HP7.out HS7.out)
      rw [Vd.check_b, HC7.out] at CK7
      have ra0 : w7.cell? ⟨gb, 0, none⟩ = some (.string nm) := HV7.out.cells 0
      have ra1 : w7.cell? ⟨gb, 1, none⟩ = some (.slice A6 M c6) := HV7.out.cells 1
      clear hw7 k7 q6 z6 h6
      go_wp2_with fail
      with_reducible refine (CK7.out).mono ?_
      rintro e_x9 w_x9 ⟨rfl, hb_x9⟩
      obtain ⟨x9, rfl⟩ := later_is hb_x9
      clear hb_x9
      have hz_x9 := x9.bel.size
      try simp at hz_x9
      have hb9 : Below w.heap.size w x9.val := HB7.out.trans (x9.bel.mono HB7.out.size)
      go_wp2
      go_ret
      exact ⟨rfl, hb9⟩
    ·go_simp
     refine hK.out _ _ ?_ (fun hHeld => ?_)
     ·trivial
     clear hK K
     try simp only [Act.put]
     try simp only [List.setIfInBounds_toArray]
     try simp only [List.set_cons_succ]
     try simp only [List.set_cons_zero]
     refine takeD (i := 10) (oi := _) (v := ?vv48) (d := some 123) rfl (by kernel_rfl) (by kernel_rfl) (by kernel_rfl) (by kernel_rfl) (fun _ _ _ h => h) (Or.inl ⟨by kernel_rfl, ?_⟩) (by assumption) ?_
     rotate_left 1
     ·intro W_ hSw; (try dsimp only at hSw); go_simp; (first | done | with_reducible rfl)
     try simp only [Act.put, List.setIfInBounds_toArray, List.set_cons_zero, List.set_cons_succ]
     rw [HA5.out]
     refine wpAnyH_ready (rs := [2]) (by kernel_rfl) (by simp) ?_
     refine AllReadyH.cons (o := _) rfl (fun K hK => ?_) AllReadyH.nil
     go_simp
     refine hK.out _ _ ?_ (fun hHeld => ?_)
     ·trivial
     clear hK K
     try simp only [Act.put]
     try simp only [List.setIfInBounds_toArray]
     try simp only [List.set_cons_succ]
     try simp only [List.set_cons_zero]
     refine takeD (i := 4) (oi := _) (v := ?vv49) (d := some 117) rfl (by kernel_rfl) (by kernel_rfl) (by kernel_rfl) (by kernel_rfl) (fun _ _ _ h => h) (Or.inl ⟨by kernel_rfl, ?_⟩) (by assumption) ?_
     rotate_left 1
     ·intro W_ hSw; (try dsimp only at hSw); go_simp; (first | done | with_reducible rfl)
     try simp only [Act.put, List.setIfInBounds_toArray, List.set_cons_zero, List.set_cons_succ]
     refine wpAnyH_ready (rs := [5]) (by kernel_rfl) (by simp) ?_
     refine AllReadyH.cons (o := _) rfl (fun K hK => ?_) AllReadyH.nil
     (refine step_append_rn _ rfl (.tmp 113) (.tmp 117) 24 rfl paF_length (by decide) paF_one wz.heap.size 46 iP _ 48 Try.underlying24 hifP hp0 hp1 hp2' (by decide) rfl (some ⟨gy, 0, none⟩) 0 0 [] rfl rfl OE.out Wc.heap.size (some ⟨g1, 0, none⟩) (plz.take i) c1 i LTz.out rfl ((HPz.out.rc.below BC.out).more BC.out.size |>.take i) (by simp) i (by omega) (by omega) BC.out.size ?_)
     intro A4 c4 w4 o4 b4
     rw [List.nil_append] at o4
     have B4 : Hid (Below wz.heap.size wz w4) := Lib.hid (BC.out.trans b4)
     have O4 := Lib.hid o4
     refine hK.out _ _ ?_ (fun hHeld => ?_)
     ·trivial
     clear hK K o4 b4
     try simp only [Act.put, List.setIfInBounds_toArray, List.set_cons_zero, List.set_cons_succ]
     have r41 : w4.cell? ⟨gb, 1, none⟩ = some (.slice (some ⟨g1, 0, none⟩) k c1) := (HVz.out.to B4.out).cells 1
     refine wpAnyH_ready (rs := [11]) (by kernel_rfl) (by simp) ?_
     refine AllReadyH.cons (o := _) rfl (fun K hK => ?_) AllReadyH.nil
     (refine step_append_rn _ rfl (.tmp 118) (.tmp 123) 24 rfl paF_length (by decide) paF_one wz.heap.size 46 iP _ 48 Try.underlying24 hifP hp0 hp1 hp2' (by decide) rfl A4 c4 i (plz.take i) rfl LTz.out O4.out w4.heap.size A5 (plz.drop K1) (c1 - K1) (k - K1) LDz.out rfl ((HR5.out.below B4.out).more B4.out.size) HN5.out M HME.out (by omega) B4.out.size ?_)
     intro A6 c6 w6 o6 b6
     have B6 : Hid (Below wz.heap.size wz w6) := Lib.hid (B4.out.trans b6)
     have O6 : Hid (w6.ownsRow wz.heap.size 46 3 (.slice A6 M c6) M ((Vd.out plz i).flatMap paF)) := Lib.hid (by unfold Vd.out; rw [HK1.out]; exact o6)
     refine hK.out _ _ ?_ (fun hHeld => ?_)
     ·trivial
     clear hK K o6 b6
     try simp only [Act.put, List.setIfInBounds_toArray, List.set_cons_zero, List.set_cons_succ]
     have HV6 := Lib.hid (HVz.out.to B6.out)
     have h6 : gb < w6.heap.size := HV6.out.lt
     have q6 : w6.cell? ⟨gb, 1, none⟩ = some (.slice (some ⟨g1, 0, none⟩) k c1) := HV6.out.cells 1
     have z6 : w6.frozen? ⟨gb, 1, none⟩ = false := HV6.out.frozen 1
     refine takeD (i := 12) (oi := _) (v := ?vv50) (d := some 125) rfl (by kernel_rfl) (by kernel_rfl) (by kernel_rfl) (by kernel_rfl) (fun _ _ _ h => h) (Or.inl ⟨by kernel_rfl, ?_⟩) (by assumption) ?_
     rotate_left 1
     ·intro W_ hSw; (try dsimp only at hSw); go_simp; (first | done | with_reducible rfl)
     try simp only [Act.put, List.setIfInBounds_toArray, List.set_cons_zero, List.set_cons_succ]
     refine wpAnyH_ready (rs := [13]) (by kernel_rfl) (by simp) ?_
     refine AllReadyH.cons (o := _) rfl (fun K hK => ?_) AllReadyH.nil
     go_simp
     refine hK.out _ _ ?_ (fun hHeld => ?_)
     ·trivial
     clear hK K
     try simp only [Act.put]
     try simp only [List.setIfInBounds_toArray]
     try simp only [List.set_cons_succ]
     try simp only [List.set_cons_zero]
     refine wpAnyH_done (by kernel_rfl) ?_ _
     obtain ⟨w7, hw7⟩ : ∃ W, w6.setCell ⟨gb, 1, none⟩ (.slice A6 M c6) = W := ⟨_, rfl⟩
     have k7 : Only gb w6 w7 := by rw [← hw7]; exact (Only.refl _ _).set _
     have HV7 : Hid (RowAt w7 gb 26 [.string nm, .slice A6 M c6]) := Lib.hid (by rw [← hw7]; exact HV6.out.set 1 _)
     have HB7 : Hid (Below w.heap.size w w7) := Lib.hid ((HBz.out.trans (B6.out.mono HBz.out.size)).trans (k7.below (by omega)))
     have HP7 := Lib.hid (pas_own O6.out HPz.out.ok B6.out (fun p hp => (Vd.out_sub plz i).subset hp) HWz.out hgbz k7)
     have HS7 := Lib.hid (own_shp O6.out)
     rw [hw7]
     have CK7 := Lib.hid (CK.out A6 (Vd.out plz i) M c6 w7 HLO.out HB7.out HP7.out HS7.out)
     rw [Vd.check_b, HC7.out] at CK7
     have ra0 : w7.cell? ⟨gb, 0, none⟩ = some (.string nm) := HV7.out.cells 0
     have ra1 : w7.cell? ⟨gb, 1, none⟩ = some (.slice A6 M c6) := HV7.out.cells 1
     clear hw7 k7 q6 z6 h6
     go_wp2_with fail
     with_reducible refine (CK7.out).mono ?_
     rintro e_x9 w_x9 ⟨rfl, hb_x9⟩
     obtain ⟨x9, rfl⟩ := later_is hb_x9
     clear hb_x9
     have hz_x9 := x9.bel.size
     try simp at hz_x9
     have hb9 : Below w.heap.size w x9.val := HB7.out.trans (x9.bel.mono HB7.out.size)
     go_wp2
     go_ret
     exact ⟨rfl, hb9⟩
   ·go_simp
    refine hK.out _ _ ?_ (fun hHeld => ?_)
    ·trivial
    clear hK K
    try simp only [Act.put]
    try simp only [List.setIfInBounds_toArray]
    try simp only [List.set_cons_succ]
    try simp only [List.set_cons_zero]
    refine takeD (i := 4) (oi := _) (v := ?vv51) (d := some 117) rfl (by kernel_rfl) (by kernel_rfl) (by kernel_rfl) (by kernel_rfl) (fun _ _ _ h => h) (Or.inl ⟨by kernel_rfl, ?_⟩) (by assumption) ?_
    rotate_left 1
    ·intro W_ hSw; (try dsimp only at hSw); go_simp; (first | done | with_reducible rfl)
    try simp only [Act.put, List.setIfInBounds_toArray, List.set_cons_zero, List.set_cons_succ]
    refine wpAnyH_ready (rs := [0, 7]) (by kernel_rfl) (by simp) ?_
    refine AllReadyH.cons (o := _) rfl (fun K hK => ?_) (AllReadyH.cons (o := _) rfl (fun K hK => ?_) AllReadyH.nil)
    ·go_simp
     refine hK.out _ _ ?_ (fun hHeld => ?_)
     ·trivial
     clear hK K
     try simp only [Act.put]
     try simp only [List.setIfInBounds_toArray]
     try simp only [List.set_cons_succ]
     try simp only [List.set_cons_zero]
     obtain ⟨Wc, hWc⟩ : ∃ W, (wz.alloc (.cells #[] 46)).drew = W := ⟨_, rfl⟩
     have BC : Hid (Below wz.heap.size wz Wc) := Lib.hid (by rw [← hWc]; exact (bel_alloc (Below.refl _ _) _).drew)
     have OE : Hid (Wc.ownsRow wz.heap.size 46 3 (.slice (some ⟨gy, 0, none⟩) 0 0) 0 (([] : List Pa).flatMap paF)) := Lib.hid (by
      rw [← hWc, ← HGY.out]
      exact own_below (own_recs_empty paF wz wz.heap.size 46 3 _ rfl (Nat.le_refl _)) (Below.refl _ _).drew)
     have rc1 : Wc.cell? ⟨gb, 1, none⟩ = some (.slice (some ⟨g1, 0, none⟩) k c1) := (HVz.out.to BC.out).cells 1
     rw [hWc, HGY.out]
     clear hWc
     refine wpAnyH_ready (rs := [5, 7]) (by kernel_rfl) (by simp) ?_
     refine AllReadyH.cons (o := _) rfl (fun K hK => ?_) (AllReadyH.cons (o := _) rfl (fun K hK => ?_) AllReadyH.nil)
     ·(refine step_append_rn _ rfl (.tmp 113) (.tmp 117) 24 rfl paF_length (by decide) paF_one wz.heap.size 46 iP _ 48 Try.underlying24 hifP hp0 hp1 hp2' (by decide) rfl (some ⟨gy, 0, none⟩) 0 0 [] rfl rfl OE.out Wc.heap.size (some ⟨g1, 0, none⟩) (plz.take i) c1 i LTz.out rfl ((HPz.out.rc.below BC.out).more BC.out.size |>.take i) (by simp) i (by omega) (by omega) BC.out.size ?_)
      intro A4 c4 w4 o4 b4
      rw [List.nil_append] at o4
      have B4 : Hid (Below wz.heap.size wz w4) := Lib.hid (BC.out.trans b4)
      have O4 := Lib.hid o4
      refine hK.out _ _ ?_ (fun hHeld => ?_)
      ·trivial
      clear hK K o4 b4
      try simp only [Act.put, List.setIfInBounds_toArray, List.set_cons_zero, List.set_cons_succ]
      have r41 : w4.cell? ⟨gb, 1, none⟩ = some (.slice (some ⟨g1, 0, none⟩) k c1) := (HVz.out.to B4.out).cells 1
      refine wpAnyH_ready (rs := [7]) (by kernel_rfl) (by simp) ?_
      refine AllReadyH.cons (o := _) rfl (fun K hK => ?_) AllReadyH.nil
      go_simp
      refine hK.out _ _ ?_ (fun hHeld => ?_)
      ·trivial
      clear hK K
      try simp only [Act.put]
      try simp only [List.setIfInBounds_toArray]
      try simp only [List.set_cons_succ]
      try simp only [List.set_cons_zero]
      refine takeD (i := 10) (oi := _) (v := ?vv52) (d := some 123) rfl (by kernel_rfl) (by kernel_rfl) (by kernel_rfl) (by kernel_rfl) (fun _ _ _ h => h) (Or.inl ⟨by kernel_rfl, ?_⟩) (by assumption) ?_
      rotate_left 1
      ·intro W_ hSw; (try dsimp only at hSw); go_simp; (first | done | with_reducible rfl)
      try simp only [Act.put, List.setIfInBounds_toArray, List.set_cons_zero, List.set_cons_succ]
      rw [HA5.out]
      refine wpAnyH_ready (rs := [11]) (by kernel_rfl) (by simp) ?_
      refine AllReadyH.cons (o := _) rfl (fun K hK => ?_) AllReadyH.nil
      (refine step_append_rn _ rfl (.tmp 118) (.tmp 123) 24 rfl paF_length (by decide) paF_one wz.heap.size 46 iP _ 48 Try.underlying24 hifP hp0 hp1 hp2' (by decide) rfl A4 c4 i (plz.take i) rfl LTz.out O4.out w4.heap.size A5 (plz.drop K1) (c1 - K1) (k - K1) LDz.out rfl ((HR5.out.below B4.out).more B4.out.size) HN5.out M HME.out (by omega) B4.out.size ?_)
      intro A6 c6 w6 o6 b6
      have B6 : Hid (Below wz.heap.size wz w6) := Lib.hid (B4.out.trans b6)
      have O6 : Hid (w6.ownsRow wz.heap.size 46 3 (.slice A6 M c6) M ((Vd.out plz i).flatMap paF)) := Lib.hid (by unfold Vd.out; rw [HK1.out]; exact o6)
      refine hK.out _ _ ?_ (fun hHeld => ?_)
      ·trivial
      clear hK K o6 b6
      try simp only [Act.put, List.setIfInBounds_toArray, List.set_cons_zero, List.set_cons_succ]
      have HV6 := Lib.hid (HVz.out.to B6.out)
      have h6 : gb < w6.heap.size := HV6.out.lt
      have q6 : w6.cell? ⟨gb, 1, none⟩ = some (.slice (some ⟨g1, 0, none⟩) k c1) := HV6.out.cells 1
      have z6 : w6.frozen? ⟨gb, 1, none⟩ = false := HV6.out.frozen 1
      refine takeD (i := 12) (oi := _) (v := ?vv53) (d := some 125) rfl (by kernel_rfl) (by kernel_rfl) (by kernel_rfl) (by kernel_rfl) (fun _ _ _ h => h) (Or.inl ⟨by kernel_rfl, ?_⟩) (by assumption) ?_
      rotate_left 1
      ·intro W_ hSw; (try dsimp only at hSw); go_simp; (first | done | with_reducible rfl)
      try simp only [Act.put, List.setIfInBounds_toArray, List.set_cons_zero, List.set_cons_succ]
      refine wpAnyH_ready (rs := [13]) (by kernel_rfl) (by simp) ?_
      refine AllReadyH.cons (o := _) rfl (fun K hK => ?_) AllReadyH.nil
      go_simp
      refine hK.out _ _ ?_ (fun hHeld => ?_)
      ·trivial
      clear hK K
      try simp only [Act.put]
      try simp only [List.setIfInBounds_toArray]
      try simp only [List.set_cons_succ]
      try simp only [List.set_cons_zero]
      refine wpAnyH_done (by kernel_rfl) ?_ _
      obtain ⟨w7, hw7⟩ : ∃ W, w6.setCell ⟨gb, 1, none⟩ (.slice A6 M c6) = W := ⟨_, rfl⟩
      have k7 : Only gb w6 w7 := by rw [← hw7]; exact (Only.refl _ _).set _
      have HV7 : Hid (RowAt w7 gb 26 [.string nm, .slice A6 M c6]) := Lib.hid (by rw [← hw7]; exact HV6.out.set 1 _)
      have HB7 : Hid (Below w.heap.size w w7) := Lib.hid ((HBz.out.trans (B6.out.mono HBz.out.size)).trans (k7.below (by omega)))
      have HP7 := Lib.hid (pas_own O6.out HPz.out.ok B6.out (fun p hp => (Vd.out_sub plz i).subset hp) HWz.out hgbz k7)
      have HS7 := Lib.hid (own_shp O6.out)
      rw [hw7]
      have CK7 := Lib.hid (CK.out A6 (Vd.out plz i) M c6 w7 HLO.out HB7.out HP7.out HS7.out)
      rw [Vd.check_b, HC7.out] at CK7
      have ra0 : w7.cell? ⟨gb, 0, none⟩ = some (.string nm) := HV7.out.cells 0
      have ra1 : w7.cell? ⟨gb, 1, none⟩ = some (.slice A6 M c6) := HV7.out.cells 1
      clear hw7 k7 q6 z6 h6
      go_wp2_with fail
      with_reducible refine (CK7.out).mono ?_
      rintro e_x9 w_x9 ⟨rfl, hb_x9⟩
      obtain ⟨x9, rfl⟩ := later_is hb_x9
      clear hb_x9
      have hz_x9 := x9.bel.size
      try simp at hz_x9
      have hb9 : Below w.heap.size w x9.val := HB7.out.trans (x9.bel.mono HB7.out.size)
      go_wp2
      go_ret
      exact ⟨rfl, hb9⟩
     ·go_simp
      refine hK.out _ _ ?_ (fun hHeld => ?_)
      ·trivial
      clear hK K
      try simp only [Act.put]
      try simp only [List.setIfInBounds_toArray]
      try simp only [List.set_cons_succ]
      try simp only [List.set_cons_zero]
      refine takeD (i := 10) (oi := _) (v := ?vv54) (d := some 123) rfl (by kernel_rfl) (by kernel_rfl) (by kernel_rfl) (by kernel_rfl) (fun _ _ _ h => h) (Or.inl ⟨by kernel_rfl, ?_⟩) (by assumption) ?_
      rotate_left 1
      ·intro W_ hSw; (try dsimp only at hSw); go_simp; (first | done | with_reducible rfl)
      try simp only [Act.put, List.setIfInBounds_toArray, List.set_cons_zero, List.set_cons_succ]
      rw [HA5.out]
      refine wpAnyH_ready (rs := [5]) (by kernel_rfl) (by simp) ?_
      refine AllReadyH.cons (o := _) rfl (fun K hK => ?_) AllReadyH.nil
      (refine step_append_rn _ rfl (.tmp 113) (.tmp 117) 24 rfl paF_length (by decide) paF_one wz.heap.size 46 iP _ 48 Try.underlying24 hifP hp0 hp1 hp2' (by decide) rfl (some ⟨gy, 0, none⟩) 0 0 [] rfl rfl OE.out Wc.heap.size (some ⟨g1, 0, none⟩) (plz.take i) c1 i LTz.out rfl ((HPz.out.rc.below BC.out).more BC.out.size |>.take i) (by simp) i (by omega) (by omega) BC.out.size ?_)
      intro A4 c4 w4 o4 b4
      rw [List.nil_append] at o4
      have B4 : Hid (Below wz.heap.size wz w4) := Lib.hid (BC.out.trans b4)
      have O4 := Lib.hid o4
      refine hK.out _ _ ?_ (fun hHeld => ?_)
      ·trivial
      clear hK K o4 b4
      try simp only [Act.put, List.setIfInBounds_toArray, List.set_cons_zero, List.set_cons_succ]
      have r41 : w4.cell? ⟨gb, 1, none⟩ = some (.slice (some ⟨g1, 0, none⟩) k c1) := (HVz.out.to B4.out).cells 1
      refine wpAnyH_ready (rs := [11]) (by kernel_rfl) (by simp) ?_
      refine AllReadyH.cons (o := _) rfl (fun K hK => ?_) AllReadyH.nil
      (refine step_append_rn _ rfl (.tmp 118) (.tmp 123) 24 rfl paF_length (by decide) paF_one wz.heap.size 46 iP _ 48 Try.underlying24 hifP hp0 hp1 hp2' (by decide) rfl A4 c4 i (plz.take i) rfl LTz.out O4.out w4.heap.size A5 (plz.drop K1) (c1 - K1) (k - K1) LDz.out rfl ((HR5.out.below B4.out).more B4.out.size) HN5.out M HME.out (by omega) B4.out.size ?_)
      intro A6 c6 w6 o6 b6
      have B6 : Hid (Below wz.heap.size wz w6) := Lib.hid (B4.out.trans b6)
      have O6 : Hid (w6.ownsRow wz.heap.size 46 3 (.slice A6 M c6) M ((Vd.out plz i).flatMap paF)) := Lib.hid (by unfold Vd.out; rw [HK1.out]; exact o6)
      refine hK.out _ _ ?_ (fun hHeld => ?_)
      ·trivial
      clear hK K o6 b6
      try simp only [Act.put, List.setIfInBounds_toArray, List.set_cons_zero, List.set_cons_succ]
      have HV6 := Lib.hid (HVz.out.to B6.out)
      have h6 : gb < w6.heap.size := HV6.out.lt
      have q6 : w6.cell? ⟨gb, 1, none⟩ = some (.slice (some ⟨g1, 0, none⟩) k c1) := HV6.out.cells 1
      have z6 : w6.frozen? ⟨gb, 1, none⟩ = false := HV6.out.frozen 1
      refine takeD (i := 12) (oi := _) (v := ?vv55) (d := some 125) rfl (by kernel_rfl) (by kernel_rfl) (by kernel_rfl) (by kernel_rfl) (fun _ _ _ h => h) (Or.inl ⟨by kernel_rfl, ?_⟩) (by assumption) ?_
      rotate_left 1
      ·intro W_ hSw; (try dsimp only at hSw); go_simp; (first | done | with_reducible rfl)
      try simp only [Act.put, List.setIfInBounds_toArray, List.set_cons_zero, List.set_cons_succ]
      refine wpAnyH_ready (rs := [13]) (by kernel_rfl) (by simp) ?_
      refine AllReadyH.cons (o := _) rfl (fun K hK => ?_) AllReadyH.nil
      go_simp
      refine hK.out _ _ ?_ (fun hHeld => ?_)
      ·trivial
      clear hK K
      try simp only [Act.put]
      try simp only [List.setIfInBounds_toArray]
      try simp only [List.set_cons_succ]
      try simp only [List.set_cons_zero]
      refine wpAnyH_done (by kernel_rfl) ?_ _
      obtain ⟨w7, hw7⟩ : ∃ W, w6.setCell ⟨gb, 1, none⟩ (.slice A6 M c6) = W := ⟨_, rfl⟩
      have k7 : Only gb w6 w7 := by rw [← hw7]; exact (Only.refl _ _).set _
      have HV7 : Hid (RowAt w7 gb 26 [.string nm, .slice A6 M c6]) := Lib.hid (by rw [← hw7]; exact HV6.out.set 1 _)
      have HB7 : Hid (Below w.heap.size w w7) := Lib.hid ((HBz.out.trans (B6.out.mono HBz.out.size)).trans (k7.below (by omega)))
      have HP7 := Lib.hid (pas_own O6.out HPz.out.ok B6.out (fun p hp => (Vd.out_sub plz i).subset hp) HWz.out hgbz k7)
      have HS7 := Lib.hid (own_shp O6.out)
      rw [hw7]
      have CK7 := Lib.hid (CK.out A6 (Vd.out plz i) M c6 w7 HLO.out HB7.out HP7.out HS7.out)
      rw [Vd.check_b, HC7.out] at CK7
      have ra0 : w7.cell? ⟨gb, 0, none⟩ = some (.string nm) := HV7.out.cells 0
      have ra1 : w7.cell? ⟨gb, 1, none⟩ = some (.slice A6 M c6) := HV7.out.cells 1
      clear hw7 k7 q6 z6 h6
      go_wp2_with fail
      with_reducible refine (CK7.out).mono ?_
      rintro e_x9 w_x9 ⟨rfl, hb_x9⟩
      obtain ⟨x9, rfl⟩ := later_is hb_x9
      clear hb_x9
      have hz_x9 := x9.bel.size
      try simp at hz_x9
      have hb9 : Below w.heap.size w x9.val := HB7.out.trans (x9.bel.mono HB7.out.size)
      go_wp2
      go_ret
      exact ⟨rfl, hb9⟩
    ·go_simp
     refine hK.out _ _ ?_ (fun hHeld => ?_)
     ·trivial
     clear hK K
     try simp only [Act.put]
     try simp only [List.setIfInBounds_toArray]
     try simp only [List.set_cons_succ]
     try simp only [List.set_cons_zero]
     refine takeD (i := 10) (oi := _) (v := ?vv56) (d := some 123) rfl (by kernel_rfl) (by kernel_rfl) (by kernel_rfl) (by kernel_rfl) (fun _ _ _ h => h) (Or.inl ⟨by kernel_rfl, ?_⟩) (by assumption) ?_
     rotate_left 1
     ·intro W_ hSw; (try dsimp only at hSw); go_simp; (first | done | with_reducible rfl)
     try simp only [Act.put, List.setIfInBounds_toArray, List.set_cons_zero, List.set_cons_succ]
     rw [HA5.out]
     refine wpAnyH_ready (rs := [0]) (by kernel_rfl) (by simp) ?_
     refine AllReadyH.cons (o := _) rfl (fun K hK => ?_) AllReadyH.nil
     go_simp
     refine hK.out _ _ ?_ (fun hHeld => ?_)
     ·trivial
     clear hK K
     try simp only [Act.put]
     try simp only [List.setIfInBounds_toArray]
     try simp only [List.set_cons_succ]
     try simp only [List.set_cons_zero]
     obtain ⟨Wc, hWc⟩ : ∃ W, (wz.alloc (.cells #[] 46)).drew = W := ⟨_, rfl⟩
     have BC : Hid (Below wz.heap.size wz Wc) := Lib.hid (by rw [← hWc]; exact (bel_alloc (Below.refl _ _) _).drew)
     have OE : Hid (Wc.ownsRow wz.heap.size 46 3 (.slice (some ⟨gy, 0, none⟩) 0 0) 0 (([] : List Pa).flatMap paF)) := Lib.hid (by
      rw [← hWc, ← HGY.out]
      exact own_below (own_recs_empty paF wz wz.heap.size 46 3 _ rfl (Nat.le_refl _)) (Below.refl _ _).drew)
     have rc1 : Wc.cell? ⟨gb, 1, none⟩ = some (.slice (some ⟨g1, 0, none⟩) k c1) := (HVz.out.to BC.out).cells 1
     rw [hWc, HGY.out]
     clear hWc
     refine wpAnyH_ready (rs := [5]) (by kernel_rfl) (by simp) ?_
     refine AllReadyH.cons (o := _) rfl (fun K hK => ?_) AllReadyH.nil
     (refine step_append_rn _ rfl (.tmp 113) (.tmp 117) 24 rfl paF_length (by decide) paF_one wz.heap.size 46 iP _ 48 Try.underlying24 hifP hp0 hp1 hp2' (by decide) rfl (some ⟨gy, 0, none⟩) 0 0 [] rfl rfl OE.out Wc.heap.size (some ⟨g1, 0, none⟩) (plz.take i) c1 i LTz.out rfl ((HPz.out.rc.below BC.out).more BC.out.size |>.take i) (by simp) i (by omega) (by omega) BC.out.size ?_)
     intro A4 c4 w4 o4 b4
     rw [List.nil_append] at o4
     have B4 : Hid (Below wz.heap.size wz w4) := Lib.hid (BC.out.trans b4)
     have O4 := Lib.hid o4
     refine hK.out _ _ ?_ (fun hHeld => ?_)
     ·trivial
     clear hK K o4 b4
     try simp only [Act.put, List.setIfInBounds_toArray, List.set_cons_zero, List.set_cons_succ]
     have r41 : w4.cell? ⟨gb, 1, none⟩ = some (.slice (some ⟨g1, 0, none⟩) k c1) := (HVz.out.to B4.out).cells 1
     refine wpAnyH_ready (rs := [11]) (by kernel_rfl) (by simp) ?_
     refine AllReadyH.cons (o := _) rfl (fun K hK => ?_) AllReadyH.nil
     (refine step_append_rn _ rfl (.tmp 118) (.tmp 123) 24 rfl paF_length (by decide) paF_one wz.heap.size 46 iP _ 48 Try.underlying24 hifP hp0 hp1 hp2' (by decide) rfl A4 c4 i (plz.take i) rfl LTz.out O4.out w4.heap.size A5 (plz.drop K1) (c1 - K1) (k - K1) LDz.out rfl ((HR5.out.below B4.out).more B4.out.size) HN5.out M HME.out (by omega) B4.out.size ?_)
     intro A6 c6 w6 o6 b6
     have B6 : Hid (Below wz.heap.size wz w6) := Lib.hid (B4.out.trans b6)
     have O6 : Hid (w6.ownsRow wz.heap.size 46 3 (.slice A6 M c6) M ((Vd.out plz i).flatMap paF)) := Lib.hid (by unfold Vd.out; rw [HK1.out]; exact o6)
     refine hK.out _ _ ?_ (fun hHeld => ?_)
     ·trivial
     clear hK K o6 b6
     try simp only [Act.put, List.setIfInBounds_toArray, List.set_cons_zero, List.set_cons_succ]
     have HV6 := Lib.hid (HVz.out.to B6.out)
     have h6 : gb < w6.heap.size := HV6.out.lt
     have q6 : w6.cell? ⟨gb, 1, none⟩ = some (.slice (some ⟨g1, 0, none⟩) k c1) := HV6.out.cells 1
     have z6 : w6.frozen? ⟨gb, 1, none⟩ = false := HV6.out.frozen 1
     refine takeD (i := 12) (oi := _) (v := ?vv57) (d := some 125) rfl (by kernel_rfl) (by kernel_rfl) (by kernel_rfl) (by kernel_rfl) (fun _ _ _ h => h) (Or.inl ⟨by kernel_rfl, ?_⟩) (by assumption) ?_
     rotate_left 1
     ·intro W_ hSw; (try dsimp only at hSw); go_simp; (first | done | with_reducible rfl)
     try simp only [Act.put, List.setIfInBounds_toArray, List.set_cons_zero, List.set_cons_succ]
     refine wpAnyH_ready (rs := [13]) (by kernel_rfl) (by simp) ?_
     refine AllReadyH.cons (o := _) rfl (fun K hK => ?_) AllReadyH.nil
     go_simp
     refine hK.out _ _ ?_ (fun hHeld => ?_)
     ·trivial
     clear hK K
     try simp only [Act.put]
     try simp only [List.setIfInBounds_toArray]
     try simp only [List.set_cons_succ]
     try simp only [List.set_cons_zero]
     refine wpAnyH_done (by kernel_rfl) ?_ _
     obtain ⟨w7, hw7⟩ : ∃ W, w6.setCell ⟨gb, 1, none⟩ (.slice A6 M c6) = W := ⟨_, rfl⟩
     have k7 : Only gb w6 w7 := by rw [← hw7]; exact (Only.refl _ _).set _
     have HV7 : Hid (RowAt w7 gb 26 [.string nm, .slice A6 M c6]) := Lib.hid (by rw [← hw7]; exact HV6.out.set 1 _)
     have HB7 : Hid (Below w.heap.size w w7) := Lib.hid ((HBz.out.trans (B6.out.mono HBz.out.size)).trans (k7.below (by omega)))
     have HP7 := Lib.hid (pas_own O6.out HPz.out.ok B6.out (fun p hp => (Vd.out_sub plz i).subset hp) HWz.out hgbz k7)
     have HS7 := Lib.hid (own_shp O6.out)
     rw [hw7]
     have CK7 := Lib.hid (CK.out A6 (Vd.out plz i) M c6 w7 HLO.out HB7.out HP7.out HS7.out)
     rw [Vd.check_b, HC7.out] at CK7
     have ra0 : w7.cell? ⟨gb, 0, none⟩ = some (.string nm) := HV7.out.cells 0
     have ra1 : w7.cell? ⟨gb, 1, none⟩ = some (.slice A6 M c6) := HV7.out.cells 1
     clear hw7 k7 q6 z6 h6
     go_wp2_with fail
     with_reducible refine (CK7.out).mono ?_
     rintro e_x9 w_x9 ⟨rfl, hb_x9⟩
     obtain ⟨x9, rfl⟩ := later_is hb_x9
     clear hb_x9
     have hz_x9 := x9.bel.size
     try simp at hz_x9
     have hb9 : Below w.heap.size w x9.val := HB7.out.trans (x9.bel.mono HB7.out.size)
     go_wp2
     go_ret
     exact ⟨rfl, hb9⟩
   ·go_simp
    refine hK.out _ _ ?_ (fun hHeld => ?_)
    ·trivial
    clear hK K
    try simp only [Act.put]
    try simp only [List.setIfInBounds_toArray]
    try simp only [List.set_cons_succ]
    try simp only [List.set_cons_zero]
    refine takeD (i := 10) (oi := _) (v := ?vv58) (d := some 123) rfl (by kernel_rfl) (by kernel_rfl) (by kernel_rfl) (by kernel_rfl) (fun _ _ _ h => h) (Or.inl ⟨by kernel_rfl, ?_⟩) (by assumption) ?_
    rotate_left 1
    ·intro W_ hSw; (try dsimp only at hSw); go_simp; (first | done | with_reducible rfl)
    try simp only [Act.put, List.setIfInBounds_toArray, List.set_cons_zero, List.set_cons_succ]
    rw [HA5.out]
    refine wpAnyH_ready (rs := [0, 2]) (by kernel_rfl) (by simp) ?_
    refine AllReadyH.cons (o := _) rfl (fun K hK => ?_) (AllReadyH.cons (o := _) rfl (fun K hK => ?_) AllReadyH.nil)
    ·go_simp
     refine hK.out _ _ ?_ (fun hHeld => ?_)
     ·trivial
     clear hK K
     try simp only [Act.put]
     try simp only [List.setIfInBounds_toArray]
     try simp only [List.set_cons_succ]
     try simp only [List.set_cons_zero]
     obtain ⟨Wc, hWc⟩ : ∃ W, (wz.alloc (.cells #[] 46)).drew = W := ⟨_, rfl⟩
     have BC : Hid (Below wz.heap.size wz Wc) := Lib.hid (by rw [← hWc]; exact (bel_alloc (Below.refl _ _) _).drew)
     have OE : Hid (Wc.ownsRow wz.heap.size 46 3 (.slice (some ⟨gy, 0, none⟩) 0 0) 0 (([] : List Pa).flatMap paF)) := Lib.hid (by
      rw [← hWc, ← HGY.out]
      exact own_below (own_recs_empty paF wz wz.heap.size 46 3 _ rfl (Nat.le_refl _)) (Below.refl _ _).drew)
     have rc1 : Wc.cell? ⟨gb, 1, none⟩ = some (.slice (some ⟨g1, 0, none⟩) k c1) := (HVz.out.to BC.out).cells 1
     rw [hWc, HGY.out]
     clear hWc
     refine wpAnyH_ready (rs := [2]) (by kernel_rfl) (by simp) ?_
     refine AllReadyH.cons (o := _) rfl (fun K hK => ?_) AllReadyH.nil
     go_simp
     refine hK.out _ _ ?_ (fun hHeld => ?_)
     ·trivial
     clear hK K
     try simp only [Act.put]
     try simp only [List.setIfInBounds_toArray]
     try simp only [List.set_cons_succ]
     try simp only [List.set_cons_zero]
     refine takeD (i := 4) (oi := _) (v := ?vv59) (d := some 117) rfl (by kernel_rfl) (by kernel_rfl) (by kernel_rfl) (by kernel_rfl) (fun _ _ _ h => h) (Or.inl ⟨by kernel_rfl, ?_⟩) (by assumption) ?_
     rotate_left 1
     ·intro W_ hSw; (try dsimp only at hSw); go_simp; (first | done | with_reducible rfl)
     try simp only [Act.put, List.setIfInBounds_toArray, List.set_cons_zero, List.set_cons_succ]
     refine wpAnyH_ready (rs := [5]) (by kernel_rfl) (by simp) ?_
     refine AllReadyH.cons (o := _) rfl (fun K hK => ?_) AllReadyH.nil
     (refine step_append_rn _ rfl (.tmp 113) (.tmp 117) 24 rfl paF_length (by decide) paF_one wz.heap.size 46 iP _ 48 Try.underlying24 hifP hp0 hp1 hp2' (by decide) rfl (some ⟨gy, 0, none⟩) 0 0 [] rfl rfl OE.out Wc.heap.size (some ⟨g1, 0, none⟩) (plz.take i) c1 i LTz.out rfl ((HPz.out.rc.below BC.out).more BC.out.size |>.take i) (by simp) i (by omega) (by omega) BC.out.size ?_)
     intro A4 c4 w4 o4 b4
     rw [List.nil_append] at o4
     have B4 : Hid (Below wz.heap.size wz w4) := Lib.hid (BC.out.trans b4)
     have O4 := Lib.hid o4
     refine hK.out _ _ ?_ (fun hHeld => ?_)
     ·trivial
     clear hK K o4 b4
     try simp only [Act.put, List.setIfInBounds_toArray, List.set_cons_zero, List.set_cons_succ]
     have r41 : w4.cell? ⟨gb, 1, none⟩ = some (.slice (some ⟨g1, 0, none⟩) k c1) := (HVz.out.to B4.out).cells 1
     refine wpAnyH_ready (rs := [11]) (by kernel_rfl) (by simp) ?_
     refine AllReadyH.cons (o := _) rfl (fun K hK => ?_) AllReadyH.nil
     (refine step_append_rn _ rfl (.tmp 118) (.tmp 123) 24 rfl paF_length (by decide) paF_one wz.heap.size 46 iP _ 48 Try.underlying24 hifP hp0 hp1 hp2' (by decide) rfl A4 c4 i (plz.take i) rfl LTz.out O4.out w4.heap.size A5 (plz.drop K1) (c1 - K1) (k - K1) LDz.out rfl ((HR5.out.below B4.out).more B4.out.size) HN5.out M HME.out (by omega) B4.out.size ?_)
     intro A6 c6 w6 o6 b6
     have B6 : Hid (Below wz.heap.size wz w6) := Lib.hid (B4.out.trans b6)
     have O6 : Hid (w6.ownsRow wz.heap.size 46 3 (.slice A6 M c6) M ((Vd.out plz i).flatMap paF)) := Lib.hid (by unfold Vd.out; rw [HK1.out]; exact o6)
     refine hK.out _ _ ?_ (fun hHeld => ?_)
     ·trivial
     clear hK K o6 b6
     try simp only [Act.put, List.setIfInBounds_toArray, List.set_cons_zero, List.set_cons_succ]
     have HV6 := Lib.hid (HVz.out.to B6.out)
     have h6 : gb < w6.heap.size := HV6.out.lt
     have q6 : w6.cell? ⟨gb, 1, none⟩ = some (.slice (some ⟨g1, 0, none⟩) k c1) := HV6.out.cells 1
     have z6 : w6.frozen? ⟨gb, 1, none⟩ = false := HV6.out.frozen 1
     refine takeD (i := 12) (oi := _) (v := ?vv60) (d := some 125) rfl (by kernel_rfl) (by kernel_rfl) (by kernel_rfl) (by kernel_rfl) (fun _ _ _ h => h) (Or.inl ⟨by kernel_rfl, ?_⟩) (by assumption) ?_
     rotate_left 1
     ·intro W_ hSw; (try dsimp only at hSw); go_simp; (first | done | with_reducible rfl)
     try simp only [Act.put, List.setIfInBounds_toArray, List.set_cons_zero, List.set_cons_succ]
     refine wpAnyH_ready (rs := [13]) (by kernel_rfl) (by simp) ?_
     refine AllReadyH.cons (o := _) rfl (fun K hK => ?_) AllReadyH.nil
     go_simp
     refine hK.out _ _ ?_ (fun hHeld => ?_)
     ·trivial
     clear hK K
     try simp only [Act.put]
     try simp only [List.setIfInBounds_toArray]
     try simp only [List.set_cons_succ]
     try simp only [List.set_cons_zero]
     refine wpAnyH_done (by kernel_rfl) ?_ _
     obtain ⟨w7, hw7⟩ : ∃ W, w6.setCell ⟨gb, 1, none⟩ (.slice A6 M c6) = W := ⟨_, rfl⟩
     have k7 : Only gb w6 w7 := by rw [← hw7]; exact (Only.refl _ _).set _
     have HV7 : Hid (RowAt w7 gb 26 [.string nm, .slice A6 M c6]) := Lib.hid (by rw [← hw7]; exact HV6.out.set 1 _)
     have HB7 : Hid (Below w.heap.size w w7) := Lib.hid ((HBz.out.trans (B6.out.mono HBz.out.size)).trans (k7.below (by omega)))
     have HP7 := Lib.hid (pas_own O6.out HPz.out.ok B6.out (fun p hp => (Vd.out_sub plz i).subset hp) HWz.out hgbz k7)
     have HS7 := Lib.hid (own_shp O6.out)
     rw [hw7]
     have CK7 := Lib.hid (CK.out A6 (Vd.out plz i) M c6 w7 HLO.out HB7.out HP7.out HS7.out)
     rw [Vd.check_b, HC7.out] at CK7
     have ra0 : w7.cell? ⟨gb, 0, none⟩ = some (.string nm) := HV7.out.cells 0
     have ra1 : w7.cell? ⟨gb, 1, none⟩ = some (.slice A6 M c6) := HV7.out.cells 1
     clear hw7 k7 q6 z6 h6
     go_wp2_with fail
     with_reducible refine (CK7.out).mono ?_
     rintro e_x9 w_x9 ⟨rfl, hb_x9⟩
     obtain ⟨x9, rfl⟩ := later_is hb_x9
     clear hb_x9
     have hz_x9 := x9.bel.size
     try simp at hz_x9
     have hb9 : Below w.heap.size w x9.val := HB7.out.trans (x9.bel.mono HB7.out.size)
     go_wp2
     go_ret
     exact ⟨rfl, hb9⟩
    ·go_simp
     refine hK.out _ _ ?_ (fun hHeld => ?_)
     ·trivial
     clear hK K
     try simp only [Act.put]
     try simp only [List.setIfInBounds_toArray]
     try simp only [List.set_cons_succ]
     try simp only [List.set_cons_zero]
     refine takeD (i := 4) (oi := _) (v := ?vv61) (d := some 117) rfl (by kernel_rfl) (by kernel_rfl) (by kernel_rfl) (by kernel_rfl) (fun _ _ _ h => h) (Or.inl ⟨by kernel_rfl, ?_⟩) (by assumption) ?_
     rotate_left 1
     ·intro W_ hSw; (try dsimp only at hSw); go_simp; (first | done | with_reducible rfl)
     try simp only [Act.put, List.setIfInBounds_toArray, List.set_cons_zero, List.set_cons_succ]
     refine wpAnyH_ready (rs := [0]) (by kernel_rfl) (by simp) ?_
     refine AllReadyH.cons (o := _) rfl (fun K hK => ?_) AllReadyH.nil
     go_simp
     refine hK.out _ _ ?_ (fun hHeld => ?_)
     ·trivial
     clear hK K
     try simp only [Act.put]
     try simp only [List.setIfInBounds_toArray]
     try simp only [List.set_cons_succ]
     try simp only [List.set_cons_zero]
     obtain ⟨Wc, hWc⟩ : ∃ W, (wz.alloc (.cells #[] 46)).drew = W := ⟨_, rfl⟩
     have BC : Hid (Below wz.heap.size wz Wc) := Lib.hid (by rw [← hWc]; exact (bel_alloc (Below.refl _ _) _).drew)
     have OE : Hid (Wc.ownsRow wz.heap.size 46 3 (.slice (some ⟨gy, 0, none⟩) 0 0) 0 (([] : List Pa).flatMap paF)) := Lib.hid (by
      rw [← hWc, ← HGY.out]
      exact own_below (own_recs_empty paF wz wz.heap.size 46 3 _ rfl (Nat.le_refl _)) (Below.refl _ _).drew)
     have rc1 : Wc.cell? ⟨gb, 1, none⟩ = some (.slice (some ⟨g1, 0, none⟩) k c1) := (HVz.out.to BC.out).cells 1
     rw [hWc, HGY.out]
     clear hWc
     refine wpAnyH_ready (rs := [5]) (by kernel_rfl) (by simp) ?_
     refine AllReadyH.cons (o := _) rfl (fun K hK => ?_) AllReadyH.nil
     (refine step_append_rn _ rfl (.tmp 113) (.tmp 117) 24 rfl paF_length (by decide) paF_one wz.heap.size 46 iP _ 48 Try.underlying24 hifP hp0 hp1 hp2' (by decide) rfl (some ⟨gy, 0, none⟩) 0 0 [] rfl rfl OE.out Wc.heap.size (some ⟨g1, 0, none⟩) (plz.take i) c1 i LTz.out rfl ((HPz.out.rc.below BC.out).more BC.out.size |>.take i) (by simp) i (by omega) (by omega) BC.out.size ?_)
     intro A4 c4 w4 o4 b4
     rw [List.nil_append] at o4
     have B4 : Hid (Below wz.heap.size wz w4) := Lib.hid (BC.out.trans b4)
     have O4 := Lib.hid o4
     refine hK.out _ _ ?_ (fun hHeld => ?_)
     ·trivial
     clear hK K o4 b4
     try simp only [Act.put, List.setIfInBounds_toArray, List.set_cons_zero, List.set_cons_succ]
     have r41 : w4.cell? ⟨gb, 1, none⟩ = some (.slice (some ⟨g1, 0, none⟩) k c1) := (HVz.out.to B4.out).cells 1
     refine wpAnyH_ready (rs := [11]) (by kernel_rfl) (by simp) ?_
     refine AllReadyH.cons (o := _) rfl (fun K hK => ?_) AllReadyH.nil
     (refine step_append_rn _ rfl (.tmp 118) (.tmp 123) 24 rfl paF_length (by decide) paF_one wz.heap.size 46 iP _ 48 Try.underlying24 hifP hp0 hp1 hp2' (by decide) rfl A4 c4 i (plz.take i) rfl LTz.out O4.out w4.heap.size A5 (plz.drop K1) (c1 - K1) (k - K1) LDz.out rfl ((HR5.out.below B4.out).more B4.out.size) HN5.out M HME.out (by omega) B4.out.size ?_)
     intro A6 c6 w6 o6 b6
     have B6 : Hid (Below wz.heap.size wz w6) := Lib.hid (B4.out.trans b6)
     have O6 : Hid (w6.ownsRow wz.heap.size 46 3 (.slice A6 M c6) M ((Vd.out plz i).flatMap paF)) := Lib.hid (by unfold Vd.out; rw [HK1.out]; exact o6)
     refine hK.out _ _ ?_ (fun hHeld => ?_)
     ·trivial
     clear hK K o6 b6
     try simp only [Act.put, List.setIfInBounds_toArray, List.set_cons_zero, List.set_cons_succ]
     have HV6 := Lib.hid (HVz.out.to B6.out)
     have h6 : gb < w6.heap.size := HV6.out.lt
     have q6 : w6.cell? ⟨gb, 1, none⟩ = some (.slice (some ⟨g1, 0, none⟩) k c1) := HV6.out.cells 1
     have z6 : w6.frozen? ⟨gb, 1, none⟩ = false := HV6.out.frozen 1
     refine takeD (i := 12) (oi := _) (v := ?vv62) (d := some 125) rfl (by kernel_rfl) (by kernel_rfl) (by kernel_rfl) (by kernel_rfl) (fun _ _ _ h => h) (Or.inl ⟨by kernel_rfl, ?_⟩) (by assumption) ?_
     rotate_left 1
     ·intro W_ hSw; (try dsimp only at hSw); go_simp; (first | done | with_reducible rfl)
     try simp only [Act.put, List.setIfInBounds_toArray, List.set_cons_zero, List.set_cons_succ]
     refine wpAnyH_ready (rs := [13]) (by kernel_rfl) (by simp) ?_
     refine AllReadyH.cons (o := _) rfl (fun K hK => ?_) AllReadyH.nil
     go_simp
     refine hK.out _ _ ?_ (fun hHeld => ?_)
     ·trivial
     clear hK K
     try simp only [Act.put]
     try simp only [List.setIfInBounds_toArray]
     try simp only [List.set_cons_succ]
     try simp only [List.set_cons_zero]
     refine wpAnyH_done (by kernel_rfl) ?_ _
     obtain ⟨w7, hw7⟩ : ∃ W, w6.setCell ⟨gb, 1, none⟩ (.slice A6 M c6) = W := ⟨_, rfl⟩
     have k7 : Only gb w6 w7 := by rw [← hw7]; exact (Only.refl _ _).set _
     have HV7 : Hid (RowAt w7 gb 26 [.string nm, .slice A6 M c6]) := Lib.hid (by rw [← hw7]; exact HV6.out.set 1 _)
     have HB7 : Hid (Below w.heap.size w w7) := Lib.hid ((HBz.out.trans (B6.out.mono HBz.out.size)).trans (k7.below (by omega)))
     have HP7 := Lib.hid (pas_own O6.out HPz.out.ok B6.out (fun p hp => (Vd.out_sub plz i).subset hp) HWz.out hgbz k7)
     have HS7 := Lib.hid (own_shp O6.out)
     rw [hw7]
     have CK7 := Lib.hid (CK.out A6 (Vd.out plz i) M c6 w7 HLO.out HB7.out HP7.out HS7.out)
     rw [Vd.check_b, HC7.out] at CK7
     have ra0 : w7.cell? ⟨gb, 0, none⟩ = some (.string nm) := HV7.out.cells 0
     have ra1 : w7.cell? ⟨gb, 1, none⟩ = some (.slice A6 M c6) := HV7.out.cells 1
     clear hw7 k7 q6 z6 h6
     go_wp2_with fail
     with_reducible refine (CK7.out).mono ?_
     rintro e_x9 w_x9 ⟨rfl, hb_x9⟩
     obtain ⟨x9, rfl⟩ := later_is hb_x9
     clear hb_x9
     have hz_x9 := x9.bel.size
     try simp at hz_x9
     have hb9 : Below w.heap.size w x9.val := HB7.out.trans (x9.bel.mono HB7.out.size)
     go_wp2
     go_ret
     exact ⟨rfl, hb9⟩
  obtain ⟨i, rfl⟩ : ∃ i : Nat, j = i + 1 := ⟨j - 1, by omega⟩
  obtain rfl : ii = (i : Int) := by omega
  clear hii hjp
  have hlt : i < np := by omega
  have hltI : (i : Int) < (np : Int) := by omega
  have hpos : decide (0 ≤ (i : Int)) = true := decide_eq_true (by omega)
  have h0I : (0 : Int) ≤ (i : Int) := by omega
  obtain ⟨g1, o1, p, hA1, hg, hp, hok, d0, d1, d2⟩ := (HPP.out.below hbw).at_ (k := i) (by rw [HNP.out]; exact hlt)
  subst hA1
  have hgl : g1 < wr.heap.size := by omega
  have hgw : g1 < w.heap.size := hg
  have hm64 := HM64.out p (List.mem_of_getElem? hp)
  have HOK := Lib.hid (HPP.out.ok p (List.mem_of_getElem? hp))
  have HPi := Lib.hid hp
  obtain ⟨slave, line, sets, PA, pc⟩ := p
  obtain ⟨m, hm⟩ : ∃ m, sets.length = m := ⟨_, rfl⟩
  have HM := Lib.hid hm
  dsimp only at d0 d1 d2 hm64
  rw [hm] at d2 hm64
  clear hp hg hok hm
  go_upto_region 6 with fail
  obtain ⟨wq, hwq⟩ : ∃ w_q_, w_q_ = wr.alloc (.cells #[.string slave, .int .i64 0, .slice none 0 0] 46) := ⟨_, rfl⟩
  rw [← hwq]
  have hbq : Below wr.heap.size wr wq := by rw [hwq]; exact belo
  have hzq : wr.heap.size + 1 ≤ wq.heap.size := by rw [hwq]; simp
  have HRQ : Hid (RowAt wq wr.heap.size 46 [.string slave, .int .i64 0, .slice none 0 0]) := Lib.hid (by rw [hwq]; exact RowAt.new' _ _ _ _ rfl)
  have rq1 : wq.cell? ⟨w.heap.size, 1, none⟩ = some (.slice (some ⟨g1, o1, none⟩) np cp) := (HRr.out.to hbq).cells 1
  have rq2 : wq.cell? ⟨g1, o1 + i * 3 + 2, none⟩ = some (.slice PA m pc) := (hbq.cell (p := ⟨g1, o1 + i * 3 + 2, none⟩) hgl).trans d2
  have hgq : g1 < wq.heap.size := by omega
  have hgq2 : w.heap.size < wq.heap.size := by omega
  have hbqw : Below w.heap.size w wq := hbw.trans (hbq.mono (by omega))
  have HBQ := Lib.hid hbq
  have HD2 := Lib.hid d2
  clear hwq hbq d0 d1 d2 ra1
  go_wp2
  go_loopw [12] (fun v12 wv => ∃ (kk : Int) (b k2 : Nat) (A2 : Option Addr) (c2 : Nat) (sl : List St), kk + 1 = (b : Int) ∧ b + k2 = m ∧ v12 = .int .i64 kk ∧ Hid (BackS wq wv wr.heap.size slave sets b k2 A2 c2 sl)) (fun i _ => (RowKit.intOf i + 1).toNat)
  case atStart => exact ⟨(m : Int) - 1, m, 0, none, 0, [], by omega, by omega, rfl, Lib.hid ⟨by rw [List.drop_eq_nil_of_le (by rw [HM.out]; exact Nat.le_refl _)]; rfl, SL.nil _ _, HRQ.out, Below.refl _ _, by omega⟩⟩
  case round =>
   clear rq1 rq2
   rename World => wv
   obtain ⟨kk, b, k2, A2, c2, sl, hkk, hbk, rfl, HJ⟩ := hrel
   have hbv := HJ.out.bel
   have hbvr : Below wr.heap.size wr wv := HBQ.out.trans hbv
   have hbvw : Below w.heap.size w wv := hbw.trans (hbvr.mono (by omega))
   have hzv := hbv.size
   have hk1000 : k2 ≤ 1000 := by omega
   rcases Nat.eq_zero_or_pos b with hb0 | hbp
   ·have hneg : decide (0 ≤ kk) = false := decide_eq_false (by omega)
    obtain rfl : k2 = m := by omega
    have HSL : Hid (sl = sets.reverse) := Lib.hid (by have h1 := HJ.out.eq; rw [hb0, List.drop_zero] at h1; exact h1)
    have HPv : Hid (PL wv (w.heap.size + 1 + 1) A1 k c1 pl) := Lib.hid (HI.out.own.to hbvr)
    have HVv := Lib.hid (HI.out.var.to hbvr)
    have f0 : wv.cell? ⟨wr.heap.size, 0, none⟩ = some (.string slave) := HJ.out.var.cells 0
    have f1 : wv.cell? ⟨wr.heap.size, 1, none⟩ = some (.int .i64 0) := HJ.out.var.cells 1
    have f2 : wv.cell? ⟨wr.heap.size, 2, none⟩ = some (.slice A2 k2 c2) := HJ.out.var.cells 2
    have f3 : wv.cell? ⟨w.heap.size + 1, 1, none⟩ = some (.slice A1 k c1) := HVv.out.cells 1
    have hn1000 : k ≤ 1000 := by omega
    have HCS : Hid (paF ⟨slave, 0, sl, A2, c2⟩ = [.string slave, .int .i64 0, .slice A2 k2 c2]) := Lib.hid (by rw [← HJ.out.row.len])
    have HOKp : Hid ((Pa.mk slave 0 sl A2 c2).Ok wv wv.heap.size) := Lib.hid (HJ.out.row.part (fun s hs => by
     rw [HSL.out] at hs
     exact HOK.out.fit s (List.mem_reverse.1 hs)) slave _ (by decide))
    have HOFF : Hid (0 < sl.length → ∀ a q, A2 = some a → A1 = some q → q.block ≠ a.block) := Lib.hid (fun _ a q ha hq => by
     have h1 := (own_at_s HJ.out.row a ha).1
     have h2 := (own_at_s HI.out.own.own q hq).2.1
     omega)
    have HLOW : Hid (∀ a, A2 = some a → w.heap.size + 1 + 1 ≤ a.block) := Lib.hid (fun a ha => by
     have h1 := (own_at_s HJ.out.row a ha).1
     omega)
    have hW : w.heap.size + 1 + 1 ≤ wv.heap.size := by omega
    have BV : Hid (Below (w.heap.size + 1) wr wv) := Lib.hid (hbvr.mono (by omega))
    clear hb0
    go_wp2_with (at_builtin; go_loud (refine wpList_append_part wv rfl (.tmp 61) (.tmp 63) 24 rfl (w.heap.size + 1 + 1) iP _ Try.underlying24 hifP hp0 hp1 hp2' rfl A1 k c1 pl rfl 46 ⟨slave, 0, sl, A2, c2⟩ _ HCS.out wv.heap.size rfl HPv.out rfl HOKp.out HOFF.out HLOW.out hn1000 hW ?_; intro A4 c4 w4 o4 b4; have O4 := Lib.hid o4; have B4 : Hid (Below (w.heap.size + 1) wr w4) := Lib.hid (BV.out.trans (b4.mono (by omega))); have R4 : Hid (RowAt w4 (w.heap.size + 1) 26 [.string nm, .slice A1 k c1]) := Lib.hid (HVv.out.below b4 (by omega)); have l4 : w.heap.size + 1 < w4.heap.size := R4.out.lt; have q4 : w4.cell? ⟨w.heap.size + 1, 1, none⟩ = some (.slice A1 k c1) := R4.out.cells 1; have z4 : w4.frozen? ⟨w.heap.size + 1, 1, none⟩ = false := R4.out.frozen 1; clear o4 b4))
    have HI2 := Lib.hid (HI.out.step (p := ⟨slave, line, sets⟩) (by rw [List.getElem?_map, HPi.out]; rfl) HSL.out O4.out R4.out B4.out)
    go_roundw
    case rel => exact ⟨(i : Int) - 1, i, k + 1, A4, c4, _, by omega, by omega, rfl, HI2⟩
    case measure => (simp [RowKit.intOf]; try omega)
   obtain ⟨b, rfl⟩ : ∃ i : Nat, b = i + 1 := ⟨b - 1, by omega⟩
   obtain rfl : kk = (b : Int) := by omega
   clear hkk hbp
   have hlb : b < m := by omega
   have hlbI : (b : Int) < (m : Int) := by omega
   have hposb : decide (0 ≤ (b : Int)) = true := decide_eq_true (by omega)
   have h0b : (0 : Int) ≤ (b : Int) := by omega
   obtain ⟨g3, o3, s, hA3, hg3, hs3, hc3⟩ := (HOK.out.below hbvw).rc.at_ (j := b) (by dsimp only; rw [HM.out]; exact hlb)
   have hgl3 : g3 < w.heap.size := hg3
   dsimp only at hA3
   subst hA3
   have HS3 := Lib.hid hs3
   have HSA : Hid (∀ w', Below wr.heap.size wv w' → w'.cell? ⟨w.heap.size, 1, none⟩ = some (.slice (some ⟨g1, o1, none⟩) np cp) ∧ w'.cell? ⟨g1, o1 + i * 3 + 2, none⟩ = some (.slice (some ⟨g3, o3, none⟩) m pc) ∧ w'.rangeAt g3 (o3 + b * 5) (stF s)) := Lib.hid (fun w' hb' => by
    refine ⟨((HRr.out.to hbvr).below hb' (by omega)).cells 1, ?_, fun j v hv => ?_⟩
    ·rw [hb'.cell (p := ⟨g1, o1 + i * 3 + 2, none⟩) hgl, hbvr.cell (p := ⟨g1, o1 + i * 3 + 2, none⟩) hgl]
     exact HD2.out
    ·rw [hb'.cell (p := ⟨g3, o3 + b * 5 + j, none⟩) (by show g3 < _; omega), Nat.add_assoc]
     exact hc3 j v hv)
   have hf2 : wv.cell? ⟨wr.heap.size, 2, none⟩ = some (.slice A2 k2 c2) := HJ.out.var.cells 2
   clear hc3 hs3 hg3
   go_upto_region 9 with fail
   refine wp_region_held_drew (S := (fun w' => w'.cell? ⟨w.heap.size, 1, none⟩ = some (.slice (some ⟨g1, o1, none⟩) np cp) ∧ w'.cell? ⟨g1, o1 + i * 3 + 2, none⟩ = some (.slice (some ⟨g3, o3, none⟩) m pc) ∧ w'.rangeAt g3 (o3 + b * 5) (stF s))) (by kernel_rfl) ?_ (fun hHeld => ?_)
   ·exact HSA.out _ ((Below.refl _ _).drew)
   refine takeD (i := 0) (oi := _) (v := ?vv63) (d := some 46) rfl (by kernel_rfl) (by kernel_rfl) (by kernel_rfl) (by kernel_rfl) (fun _ _ _ h => h) (Or.inl ⟨by kernel_rfl, ?_⟩) (by assumption) ?_
   rotate_left 1
   ·intro W_ hSw; (try dsimp only at hSw); go_simp; (first | done | with_reducible rfl)
   try simp only [Act.put, List.setIfInBounds_toArray, List.set_cons_zero, List.set_cons_succ]
   refine takeD (i := 2) (oi := _) (v := ?vv64) (d := some 48) rfl (by kernel_rfl) (by kernel_rfl) (by kernel_rfl) (by kernel_rfl) (fun _ _ _ h => h) (Or.inl ⟨by kernel_rfl, ?_⟩) (by assumption) ?_
   rotate_left 1
   ·intro W_ hSw; (try dsimp only at hSw); go_simp; (first | done | with_reducible rfl)
   try simp only [Act.put, List.setIfInBounds_toArray, List.set_cons_zero, List.set_cons_succ]
   refine takeD (i := 3) (oi := _) (v := ?vv65) (d := some 49) rfl (by kernel_rfl) (by kernel_rfl) (by kernel_rfl) (by kernel_rfl) (fun _ _ _ h => h) (Or.inl ⟨by kernel_rfl, ?_⟩) (by assumption) ?_
   rotate_left 1
   ·intro W_ hSw; (try dsimp only at hSw); go_simp; (first | done | with_reducible rfl)
   try simp only [Act.put, List.setIfInBounds_toArray, List.set_cons_zero, List.set_cons_succ]
   refine takeD (i := 4) (oi := _) (v := ?vv66) (d := some 50) rfl (by kernel_rfl) (by kernel_rfl) (by kernel_rfl) (by kernel_rfl) (fun _ _ _ h => h) (Or.inl ⟨by kernel_rfl, ?_⟩) (by assumption) ?_
   rotate_left 1
   ·intro W_ hSw; (try dsimp only at hSw); go_simp; (first | done | with_reducible rfl)
   try simp only [Act.put, List.setIfInBounds_toArray, List.set_cons_zero, List.set_cons_succ]
   refine takeD (i := 5) (oi := _) (v := ?vv67) (d := some 51) rfl (by kernel_rfl) (by kernel_rfl) (by kernel_rfl) (by kernel_rfl) (fun _ _ _ h => h) (Or.inl ⟨by kernel_rfl, ?_⟩) (by assumption) ?_
   rotate_left 1
   ·intro W_ hSw; (try dsimp only at hSw); go_simp; (first | done | with_reducible rfl)
   try simp only [Act.put, List.setIfInBounds_toArray, List.set_cons_zero, List.set_cons_succ]
   refine takeD (i := 6) (oi := _) (v := ?vv68) (d := some 52) rfl (by kernel_rfl) (by kernel_rfl) (by kernel_rfl) (by kernel_rfl) (fun _ _ _ h => h) (Or.inl ⟨by kernel_rfl, ?_⟩) (by assumption) ?_
   rotate_left 1
   ·intro W_ hSw; (try dsimp only at hSw); go_simp; (first | done | with_reducible rfl)
   try simp only [Act.put, List.setIfInBounds_toArray, List.set_cons_zero, List.set_cons_succ]
   refine takeD (i := 7) (oi := _) (v := ?vv69) (d := some 53) rfl (by kernel_rfl) (by kernel_rfl) (by kernel_rfl) (by kernel_rfl) (fun _ _ _ h => h) (Or.inl ⟨by kernel_rfl, ?_⟩) (by assumption) ?_
   rotate_left 1
   ·intro W_ hSw; (try dsimp only at hSw); go_simp; (first | done | with_reducible rfl)
   try simp only [Act.put, List.setIfInBounds_toArray, List.set_cons_zero, List.set_cons_succ]
   refine takeD (i := 8) (oi := _) (v := ?vv70) (d := some 54) rfl (by kernel_rfl) (by kernel_rfl) (by kernel_rfl) (by kernel_rfl) (fun _ _ _ h => h) (Or.inl ⟨by kernel_rfl, ?_⟩) (by assumption) ?_
   rotate_left 1
   ·intro W_ hSw; (try dsimp only at hSw); go_simp; (first | done | with_reducible rfl)
   try simp only [Act.put, List.setIfInBounds_toArray, List.set_cons_zero, List.set_cons_succ]
   refine takeD (i := 9) (oi := _) (v := ?vv71) (d := some 55) rfl (by kernel_rfl) (by kernel_rfl) (by kernel_rfl) (by kernel_rfl) (fun _ _ _ h => h) (Or.inl ⟨by kernel_rfl, ?_⟩) (by assumption) ?_
   rotate_left 1
   ·intro W_ hSw; (try dsimp only at hSw); go_simp; (first | done | with_reducible rfl)
   try simp only [Act.put, List.setIfInBounds_toArray, List.set_cons_zero, List.set_cons_succ]
   refine takeD (i := 10) (oi := _) (v := _) (d := some 56) rfl (by kernel_rfl) (by kernel_rfl) (by kernel_rfl) (by kernel_rfl) (fun _ _ _ h => h) (yieldsIf_load_mid (by kernel_rfl) 48 (.tmp 55) (by kernel_rfl) g3 (o3 + b * 5) (by kernel_rfl) (stF s) _ (fun W h => h.2.2) Try.underlying48 rfl size_set) (by assumption) ?_
   try simp only [Act.put, List.setIfInBounds_toArray, List.set_cons_zero, List.set_cons_succ]
   refine wpAnyH_ready (rs := [1, 11]) (by kernel_rfl) (by simp) ?_
   refine AllReadyH.cons (o := _) rfl (fun K hK => ?_) (AllReadyH.cons (o := _) rfl (fun K hK => ?_) AllReadyH.nil)
   ·go_simp
    refine hK.out _ _ ?_ (fun hHeld => ?_)
    ·exact HSA.out _ ((Below.refl _ _).drew)
    clear hK K
    try simp only [Act.put]
    try simp only [List.setIfInBounds_toArray]
    try simp only [List.set_cons_succ]
    try simp only [List.set_cons_zero]
    refine wpAnyH_ready (rs := [11]) (by kernel_rfl) (by simp) ?_
    refine AllReadyH.cons (o := _) rfl (fun K hK => ?_) AllReadyH.nil
    go_simp
    refine hK.out _ _ ?_ (fun hHeld => ?_)
    ·exact HSA.out _ ((bel_alloc (Below.refl wv.heap.size wv) _).drew.mono (by omega))
    clear hK K
    try simp only [Act.put]
    try simp only [List.setIfInBounds_toArray]
    try simp only [List.set_cons_succ]
    try simp only [List.set_cons_zero]
    have hbA : Below wv.heap.size wv ((wv.alloc (.cells (stF s).toArray 48)).drew) := (bel_alloc (Below.refl _ _) _).drew
    have hzA : wv.heap.size ≤ ((wv.alloc (.cells (stF s).toArray 48)).drew).heap.size := hbA.size
    have OC := Lib.hid (HJ.out.row.to hbA)
    have LC := Lib.hid (set_lit (w := wv) (s := s) rfl ((Below.refl _ (wv.alloc (.cells (stF s).toArray 48))).drew))
    have RC := Lib.hid (HJ.out.var.to hbA)
    have BC : Hid (Below wr.heap.size wv ((wv.alloc (.cells (stF s).toArray 48)).drew)) := Lib.hid (hbA.mono (by omega))
    obtain ⟨Wc, hWc⟩ : ∃ w_q_, w_q_ = (wv.alloc (.cells (stF s).toArray 48)).drew := ⟨_, rfl⟩
    rw [← hWc]
    rw [← hWc] at OC LC RC BC hzA
    clear hWc hbA
    refine wpAnyH_ready (rs := [12]) (by kernel_rfl) (by simp) ?_
    refine AllReadyH.cons (o := _) rfl (fun K hK => ?_) AllReadyH.nil
    (refine step_append_set _ rfl (.tmp 47) (.tmp 57) 44 rfl (wr.heap.size + 1) iS _ Try.underlying44 hifS hs0 hs1 hs2 rfl A2 k2 c2 sl rfl s OC.out Wc.heap.size _ rfl LC.out hk1000 (by omega) ?_)
    intro A3 c3 w3 o3 b3
    have O3 := Lib.hid o3
    have R3 : Hid (RowAt w3 wr.heap.size 46 [.string slave, .int .i64 0, .slice A2 k2 c2]) := Lib.hid (RC.out.below b3 (by omega))
    have B3 : Hid (Below wr.heap.size wv w3) := Lib.hid (BC.out.trans (b3.mono (by omega)))
    refine hK.out _ _ ?_ (fun hHeld => ?_)
    ·exact HSA.out _ B3.out
    clear hK K o3 b3
    try simp only [Act.put, List.setIfInBounds_toArray, List.set_cons_zero, List.set_cons_succ]
    have l3 : wr.heap.size < w3.heap.size := R3.out.lt
    have q3 : w3.cell? ⟨wr.heap.size, 2, none⟩ = some (.slice A2 k2 c2) := R3.out.cells 2
    have z3 : w3.frozen? ⟨wr.heap.size, 2, none⟩ = false := R3.out.frozen 2
    refine takeD (i := 13) (oi := _) (v := ?vv72) (d := some 59) rfl (by kernel_rfl) (by kernel_rfl) (by kernel_rfl) (by kernel_rfl) (fun _ _ _ h => h) (Or.inl ⟨by kernel_rfl, ?_⟩) (by assumption) ?_
    rotate_left 1
    ·intro W_ hSw; (try dsimp only at hSw); go_simp; (first | done | with_reducible rfl)
    try simp only [Act.put, List.setIfInBounds_toArray, List.set_cons_zero, List.set_cons_succ]
    refine wpAnyH_ready (rs := [14]) (by kernel_rfl) (by simp) ?_
    refine AllReadyH.cons (o := _) rfl (fun K hK => ?_) AllReadyH.nil
    go_simp
    refine hK.out _ _ ?_ (fun hHeld => ?_)
    ·exact HSA.out _ (B3.out.setCell (Nat.le_refl _) _)
    clear hK K
    try simp only [Act.put]
    try simp only [List.setIfInBounds_toArray]
    try simp only [List.set_cons_succ]
    try simp only [List.set_cons_zero]
    refine wpAnyH_done (by kernel_rfl) ?_ _
    clear q3 z3 hf2
    try clear hf3
    go_wp2
    have HJ2 := Lib.hid (HJ.out.step HS3.out O3.out R3.out B3.out)
    go_roundw
    case rel => exact ⟨(b : Int) - 1, b, k2 + 1, A3, c3, _, by omega, by omega, rfl, HJ2⟩
    case measure => (simp [RowKit.intOf]; try omega)
   ·go_simp
    refine hK.out _ _ ?_ (fun hHeld => ?_)
    ·exact HSA.out _ ((bel_alloc (Below.refl wv.heap.size wv) _).drew.mono (by omega))
    clear hK K
    try simp only [Act.put]
    try simp only [List.setIfInBounds_toArray]
    try simp only [List.set_cons_succ]
    try simp only [List.set_cons_zero]
    have hf3 : (wv.alloc (.cells #[.string s.point, .int .i64 s.value.n, .int .u8 (s.value.d : Int), .string s.unit, .int .i64 s.line] 48)).cell? ⟨wr.heap.size, 2, none⟩ = some (.slice A2 k2 c2) := keep_alloc hf2
    refine wpAnyH_ready (rs := [1]) (by kernel_rfl) (by simp) ?_
    refine AllReadyH.cons (o := _) rfl (fun K hK => ?_) AllReadyH.nil
    go_simp
    refine hK.out _ _ ?_ (fun hHeld => ?_)
    ·exact HSA.out _ ((bel_alloc (Below.refl wv.heap.size wv) _).drew.mono (by omega))
    clear hK K
    try simp only [Act.put]
    try simp only [List.setIfInBounds_toArray]
    try simp only [List.set_cons_succ]
    try simp only [List.set_cons_zero]
    have hbA : Below wv.heap.size wv ((wv.alloc (.cells (stF s).toArray 48)).drew) := (bel_alloc (Below.refl _ _) _).drew
    have hzA : wv.heap.size ≤ ((wv.alloc (.cells (stF s).toArray 48)).drew).heap.size := hbA.size
    have OC := Lib.hid (HJ.out.row.to hbA)
    have LC := Lib.hid (set_lit (w := wv) (s := s) rfl ((Below.refl _ (wv.alloc (.cells (stF s).toArray 48))).drew))
    have RC := Lib.hid (HJ.out.var.to hbA)
    have BC : Hid (Below wr.heap.size wv ((wv.alloc (.cells (stF s).toArray 48)).drew)) := Lib.hid (hbA.mono (by omega))
    obtain ⟨Wc, hWc⟩ : ∃ w_q_, w_q_ = (wv.alloc (.cells (stF s).toArray 48)).drew := ⟨_, rfl⟩
    rw [← hWc]
    rw [← hWc] at OC LC RC BC hzA
    clear hWc hbA
    refine wpAnyH_ready (rs := [12]) (by kernel_rfl) (by simp) ?_
    refine AllReadyH.cons (o := _) rfl (fun K hK => ?_) AllReadyH.nil
    (refine step_append_set _ rfl (.tmp 47) (.tmp 57) 44 rfl (wr.heap.size + 1) iS _ Try.underlying44 hifS hs0 hs1 hs2 rfl A2 k2 c2 sl rfl s OC.out Wc.heap.size _ rfl LC.out hk1000 (by omega) ?_)
    intro A3 c3 w3 o3 b3
    have O3 := Lib.hid o3
    have R3 : Hid (RowAt w3 wr.heap.size 46 [.string slave, .int .i64 0, .slice A2 k2 c2]) := Lib.hid (RC.out.below b3 (by omega))
    have B3 : Hid (Below wr.heap.size wv w3) := Lib.hid (BC.out.trans (b3.mono (by omega)))
    refine hK.out _ _ ?_ (fun hHeld => ?_)
    ·exact HSA.out _ B3.out
    clear hK K o3 b3
    try simp only [Act.put, List.setIfInBounds_toArray, List.set_cons_zero, List.set_cons_succ]
    have l3 : wr.heap.size < w3.heap.size := R3.out.lt
    have q3 : w3.cell? ⟨wr.heap.size, 2, none⟩ = some (.slice A2 k2 c2) := R3.out.cells 2
    have z3 : w3.frozen? ⟨wr.heap.size, 2, none⟩ = false := R3.out.frozen 2
    refine takeD (i := 13) (oi := _) (v := ?vv73) (d := some 59) rfl (by kernel_rfl) (by kernel_rfl) (by kernel_rfl) (by kernel_rfl) (fun _ _ _ h => h) (Or.inl ⟨by kernel_rfl, ?_⟩) (by assumption) ?_
    rotate_left 1
    ·intro W_ hSw; (try dsimp only at hSw); go_simp; (first | done | with_reducible rfl)
    try simp only [Act.put, List.setIfInBounds_toArray, List.set_cons_zero, List.set_cons_succ]
    refine wpAnyH_ready (rs := [14]) (by kernel_rfl) (by simp) ?_
    refine AllReadyH.cons (o := _) rfl (fun K hK => ?_) AllReadyH.nil
    go_simp
    refine hK.out _ _ ?_ (fun hHeld => ?_)
    ·exact HSA.out _ (B3.out.setCell (Nat.le_refl _) _)
    clear hK K
    try simp only [Act.put]
    try simp only [List.setIfInBounds_toArray]
    try simp only [List.set_cons_succ]
    try simp only [List.set_cons_zero]
    refine wpAnyH_done (by kernel_rfl) ?_ _
    clear q3 z3 hf2
    try clear hf3
    go_wp2
    have HJ2 := Lib.hid (HJ.out.step HS3.out O3.out R3.out B3.out)
    go_roundw
    case rel => exact ⟨(b : Int) - 1, b, k2 + 1, A3, c3, _, by omega, by omega, rfl, HJ2⟩
    case measure => (simp [RowKit.intOf]; try omega)
end Go.Proofs.Ythhokpaidekmnaa
