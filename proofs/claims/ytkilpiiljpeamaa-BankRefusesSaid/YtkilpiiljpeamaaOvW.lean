/- The walk of saucierlaw17.BankOver. -/
import Derived.Test.YtkilpiiljpeamaaAwk17
import Derived.Test.YtkilpiiljpeamaaOvLaw
import Derived.Test.YtkilpiiljpeamaaFitB
import Derived.Test.YtkilpiiljpeamaaMet
import Derived.Test.YtkilpiiljpeamaaDifLaw
namespace Go.Proofs.Ytkilpiiljpeamaa
open Go.RowKit
set_option linter.unusedVariables false
attribute [local go_sem] Later.cell Later.frozen setCell_twice
/-- a cut slice, by name -/
def slcd (a : Option Addr) (l h m s : Nat) : Value := sliced a l h m s
theorem slcd_is (a : Option Addr) (l h m s : Nat) : sliced a l h m s = slcd a l h m s := rfl
theorem blks_from {w : World} {B : Nat} {A : Option Addr} {l : List Blk} {c n k : Nat} (h : Blks w B A l) (hn : l.length = n) (hk : k ≤ n) (hc : n ≤ c) : ∃ A' : Option Addr, slcd A k n c 2 = .slice A' (n - k) (c - k) ∧ Blks w B A' (l.drop k) := by
  unfold slcd sliced
  by_cases hkn : k = n
  · subst hkn
    refine ⟨_, rfl, ?_⟩
    rw [List.drop_of_length_le (by omega)]
    exact Blks.nil
  · obtain ⟨g, o, _, rfl, _⟩ := h.at_ (k := 0) (by omega)
    rw [if_neg (by omega)]
    refine ⟨some ⟨g, o + k * 2, none⟩, by simp [Addr.add], Recs.drop h.rc, fun b hb => h.ok b (List.mem_of_mem_drop hb)⟩
theorem run_slcd {P : Program} {w : World} (t : TypeId) (a : Option Addr) (len cap : Nat) (ht : P.underlying t = some (.slice (P.elem t))) (kl : IntKind) (l : Int) (h0 : 0 ≤ l) (h1 : l ≤ len) :
    (Instr.slice t (.slice a len cap) (some (.int kl l)) none none).run P w = ((sizeOf (P.elem t)).run P w).andThen fun s w => .ok (slcd a l.toNat len cap s) w := run_slice_l _ t a len cap ht kl l h0 h1
attribute [local go_sem high] run_slcd
attribute [local irreducible] slcd
theorem sq_gw1 {w : World} {B g : Nat} {l : List Nat} (h : Sq u16w w B (some ⟨g, 0, none⟩) l) {j : Nat} (hj : j < l.length) : w.cell? ⟨g, j, none⟩ = some (.int .u16 ((gw l j : Nat) : Int)) := by
  obtain ⟨b, o, hA, _, hc⟩ := h (by omega)
  obtain ⟨rfl, rfl⟩ : g = b ∧ 0 = o := by simpa using hA
  have := hc j _ (List.getElem?_eq_getElem hj)
  rw [Nat.zero_add] at this
  unfold gw
  rw [List.getElem?_eq_getElem hj]
  exact this
theorem sq_lt1 {w : World} {B g : Nat} {l : List Nat} (h : Sq u16w w B (some ⟨g, 0, none⟩) l) (hl : 0 < l.length) : g < B := by
  obtain ⟨b, o, hA, hb, _⟩ := h hl
  obtain ⟨rfl, rfl⟩ : g = b ∧ 0 = o := by simpa using hA
  exact hb
theorem gw_over {a : List Nat} {P : List Bk.Pr} {q : Nat} (h : q < a.length) : gw (Bk.over a P) q = Bk.say P q (gw a q) := by
  unfold gw
  rw [Bk.over_say h]
  simp [List.getD_eq_getElem?_getD]
set_option maxRecDepth 100000 in
set_option maxHeartbeats 3000000 in
theorem bankOver_walk (A0 : Option Addr) (la : List Nat) (c0 : Nat) (A1 : Option Addr) (l0 : List Blk) (c1 : Nat) (cut : Nat) (w : World)
    (h0 : Sq u16w w w.heap.size A0 la) (hu0 : ∀ x ∈ la, x < 65536) (h1 : Blks w w.heap.size A1 l0) (hl1 : l0.length ≤ c1) (hc1 : c1 ≤ 9223372036854775807) (hcut : cut < 256) :
    Calls Try.prog 4 #[.slice A0 la.length c0, .slice A1 l0.length c1, .int .u8 (cut : Int)] w fun e w' => e = .returned (.bool true) ∧ Below w.heap.size w w' := by
  go_enter Try.func4, Try.ntmps4
  go_wp2_with fail
  refine (bank_any A0 la _ c0 w rfl h0).mono ?_
  rintro e w1 ⟨ga, rfl, o1, b1⟩
  have S1 := Lib.hid (show Sq u16w w1 w1.heap.size (some ⟨ga, 0, none⟩) (bank64 la) from Sq.of_own o1)
  have B1 := Lib.hid b1
  have L1 := Lib.hid (h1.to b1)
  clear o1 b1 h0 h1
  have HUA := Lib.hid (bank64_u16 hu0)
  have HLA := Lib.hid (bank64_length la)
  generalize bank64 la = a at *
  go_wp2_with fail
  refine (fit_new _ l0 c1 20 _ L1.out hl1 hc1 (by decide)).mono ?_
  rintro e w2 ⟨A7, c7, bl, rfl, hpr, hbl, hcl, hc63, hnil, hown, _, b2⟩
  have hf : ∀ z ∈ prs bl, Bk.fits z.1 z.2.length = true := fun z hz => by
    rw [hpr] at hz
    obtain ⟨z0, _, rfl⟩ := List.mem_map.1 hz
    exact Bk.fitP_fits z0
  have hn20 : bl.length ≤ 20 := by
    have := congrArg List.length hpr
    simp only [List.length_map, List.length_take] at this
    omega
  have SA := Lib.hid (S1.out.to b2)
  have L2 := Lib.hid hbl
  have B2 := Lib.hid (B1.out.trans (b2.mono B1.out.size))
  have HF := Lib.hid hf
  obtain ⟨n, hn⟩ : ∃ n, bl.length = n := ⟨_, rfl⟩
  rw [hn] at hn20 hcl ⊢
  have HN := Lib.hid hn
  obtain ⟨k, hk⟩ : ∃ k : Nat, k = cut % (n + 1) := ⟨_, rfl⟩
  have hkn : k ≤ n := by rw [hk]; exact Nat.lt_succ_iff.1 (Nat.mod_lt _ (Nat.succ_pos _))
  have hkE : (cut : Int) % ((n : Int) + 1) = (k : Int) := by rw [hk, Int.natCast_emod]; rfl
  have hkT : Int.tmod (cut : Int) ((n : Int) + 1) = (k : Int) := by rw [Int.tmod_eq_emod_of_nonneg (by omega), hkE]
  have hn0I : ((n : Int) + 1 == 0) = false := beq_eq_false_iff_ne.2 (by omega)
  have hknI : (k : Int) ≤ (n : Int) := by omega
  have hkcI : (k : Int) ≤ (c7 : Int) := by omega
  clear hk hpr hbl hown hn hf L1 S1 B1 b2
  obtain ⟨P, hP⟩ : ∃ P, prs bl = P := ⟨_, rfl⟩
  have HP := Lib.hid hP
  have HFP := Lib.hid (show ∀ z ∈ P, Bk.fits z.1 z.2.length = true by rw [← hP]; exact HF.out)
  have HFIT : Hid (∀ Q : List Bk.Pr, (∀ z ∈ Q, z ∈ P) → Bk.fit Q = true) := Lib.hid (fun Q hQ => Bk.fit_iff.2 (fun z hz => HFP.out z (hQ z hz)))
  have HO : Hid (∀ Q : List Bk.Pr, (Bk.over a Q).length = 64) := Lib.hid (fun l => by rw [Bk.over_length, HLA.out])
  clear hP HF
  go_wp2_with fail
  refine (over_any (some ⟨ga, 0, none⟩) a 64 64 A7 bl c7 n w2 SA.out HLA.out (by simp) HN.out L2.out (by omega)).mono ?_
  rintro e w3 ⟨b3, h3⟩
  rw [if_pos HLA.out, HP.out, if_pos (HFIT.out P (fun z hz => hz))] at h3
  obtain ⟨A3, c3, rfl, o3⟩ := h3
  have X3 := Lib.hid (show Sq u16w w3 w3.heap.size A3 (Bk.over a P) from Sq.of_own o3)
  have N3 := Lib.hid (own_nil_c o3).1
  obtain ⟨g3, rfl, _, _⟩ := own_some o3 (by decide)
  have SA3 := Lib.hid (SA.out.to b3)
  have L3 := Lib.hid (L2.out.to b3)
  have B3 := Lib.hid (B2.out.trans (b3.mono B2.out.size))
  clear b3 o3 SA L2 B2
  go_wp2_with fail
  refine (over_any (some ⟨ga, 0, none⟩) a 64 64 A7 (bl.take k) c7 k w3 SA3.out HLA.out (by simp) (by rw [List.length_take, HN.out]; omega) (L3.out.take k) (by omega)).mono ?_
  rintro e w4 ⟨b4, h4⟩
  rw [if_pos HLA.out, show prs (bl.take k) = P.take k by rw [prs, List.map_take]; exact congrArg (List.take k) HP.out, if_pos (HFIT.out (P.take k) (fun z hz => List.mem_of_mem_take hz))] at h4
  obtain ⟨A4, c4, rfl, o4⟩ := h4
  have Y4 := Lib.hid (show Sq u16w w4 w4.heap.size A4 (Bk.over a (P.take k)) from Sq.of_own o4)
  have N4 := Lib.hid (own_nil_c o4).1
  have X4 := Lib.hid (X3.out.to b4)
  have SA4 := Lib.hid (SA3.out.to b4)
  have L4 := Lib.hid (L3.out.to b4)
  have B4 := Lib.hid (B3.out.trans (b4.mono B3.out.size))
  clear b4 o4 X3 SA3 L3 B3
  go_wp2_with fail
  obtain ⟨A5, hA5, hbl5⟩ := blks_from L4.out HN.out hkn hcl
  rw [hA5]
  refine (over_any A4 (Bk.over a (P.take k)) c4 64 A5 (bl.drop k) (c7 - k) (n - k) w4 Y4.out (HO.out _) N4.out (by rw [List.length_drop, HN.out]) hbl5 (by omega)).mono ?_
  rintro e w5 ⟨b5, h5⟩
  rw [if_pos (HO.out _), show prs (bl.drop k) = P.drop k by rw [prs, List.map_drop]; exact congrArg (List.drop k) HP.out, if_pos (HFIT.out (P.drop k) (fun z hz => List.mem_of_mem_drop hz)), Bk.over_cut] at h5
  obtain ⟨Az, cz, rfl, o5⟩ := h5
  have Z5 := Lib.hid (show Sq u16w w5 w5.heap.size Az (Bk.over a P) from Sq.of_own o5)
  have X5 := Lib.hid (X4.out.to b5)
  have SA5 := Lib.hid (SA4.out.to b5)
  have L5 := Lib.hid (L4.out.to b5)
  have B5 := Lib.hid (B4.out.trans (b5.mono B4.out.size))
  clear b5 o5 X4 Y4 SA4 L4 B4 hA5 hbl5 N4
  go_wp2_with fail
  refine (over_any (some ⟨g3, 0, none⟩) (Bk.over a P) c3 64 A7 bl c7 n w5 X5.out (HO.out _) N3.out HN.out L5.out (by omega)).mono ?_
  rintro e w6 ⟨b6, h6⟩
  rw [if_pos (HO.out _), HP.out, if_pos (HFIT.out P (fun z hz => hz)), Bk.over_twice] at h6
  obtain ⟨Aw, cw, rfl, o6⟩ := h6
  have W6 := Lib.hid (show Sq u16w w6 w6.heap.size Aw (Bk.over a P) from Sq.of_own o6)
  have X6 := Lib.hid (X5.out.to b6)
  have Z6 := Lib.hid (Z5.out.to b6)
  have SA6 := Lib.hid (SA5.out.to b6)
  have L6 := Lib.hid (L5.out.to b6)
  have B6 := Lib.hid (B5.out.trans (b6.mono B5.out.size))
  clear b6 o6 X5 Z5 SA5 L5 B5
  go_wp2_with fail
  refine (cells_any A7 bl c7 n w6 HN.out L6.out (by omega)).mono ?_
  rintro e w7 ⟨b7, h7⟩
  rw [HP.out, if_pos (HFIT.out P (fun z hz => hz))] at h7
  obtain ⟨Ac, cc, rfl, o7⟩ := h7
  have C7 := Lib.hid (show Sq (fun x : Nat => Value.int .i64 (x : Int)) w7 w7.heap.size Ac (Bk.cells P) from Sq.of_own o7)
  have X7 := Lib.hid (X6.out.to b7)
  have Z7 := Lib.hid (Z6.out.to b7)
  have W7 := Lib.hid (W6.out.to b7)
  have SA7 := Lib.hid (SA6.out.to b7)
  have L7 := Lib.hid (L6.out.to b7)
  have B7 := Lib.hid (B6.out.trans (b7.mono B6.out.size))
  have hm64 := Bk.cells_length P
  have HC64 := Lib.hid (fun x (hx : x ∈ Bk.cells P) => (Bk.mem_cells.1 hx).1)
  have HFR := Lib.hid (fun k c (h : (Bk.cells P)[k]? = some c) => Bk.cells_fresh h)
  have HON := Lib.hid (fun i (h : i < 64) => Bk.one_cells (l := P) h)
  obtain ⟨cl, hcl2⟩ : ∃ cl, Bk.cells P = cl := ⟨_, rfl⟩
  rw [hcl2] at C7 HC64 HFR HON hm64 ⊢
  obtain ⟨m, hm⟩ : ∃ m, cl.length = m := ⟨_, rfl⟩
  have HM := Lib.hid hm
  rw [hm] at hm64 ⊢
  clear b7 o7 X6 Z6 W6 SA6 L6 B6 hcl2 hm
  go_wp2_with fail
  refine (lowWords_any (some ⟨g3, 0, none⟩) Az _ _ c3 cz 64 64 true w7 (HO.out _) (HO.out _) X7.out Z7.out (by rw [HO.out]; decide) (decide_eq_true rfl)).mono ?_
  rintro e w8 ⟨rfl, b8⟩
  have C8 := Lib.hid (C7.out.to b8)
  have X8 := Lib.hid (X7.out.to b8)
  have W8 := Lib.hid (W7.out.to b8)
  have SA8 := Lib.hid (SA7.out.to b8)
  have L8 := Lib.hid (L7.out.to b8)
  have B8 := Lib.hid (B7.out.trans (b8.mono B7.out.size))
  clear b8 C7 X7 Z7 W7 SA7 L7 B7
  go_wp2_with fail
  refine (lowWords_any (some ⟨g3, 0, none⟩) Aw _ _ c3 cw 64 64 true w8 (HO.out _) (HO.out _) X8.out W8.out (by rw [HO.out]; decide) (decide_eq_true rfl)).mono ?_
  rintro e w9 ⟨rfl, b9⟩
  have C9 := Lib.hid (C8.out.to b9)
  have X9 := Lib.hid (X8.out.to b9)
  have SA9 := Lib.hid (SA8.out.to b9)
  have L9 := Lib.hid (L8.out.to b9)
  have B9 := Lib.hid (B8.out.trans (b9.mono B8.out.size))
  clear b9 C8 X8 W8 SA8 L8 B8
  have hmm := @run_makeMap Try.prog
  go_wp2
  go_loopw [107] (fun i wr => ∃ j : Nat, j ≤ m ∧ i = .int .i64 j ∧ MapIs wr w9.heap.size (met (cl.take j)) j ∧ Below w9.heap.size w9 wr) (fun i _ => m - (intOf i).toNat)
  case atStart => exact ⟨0, by omega, rfl, MapIs.new _ _ rfl, bel_alloc (Below.refl _ _) _⟩
  case round =>
    obtain ⟨j, hj, rfl, hmap, hbe⟩ := hrel
    by_cases hlt : j < m
    · obtain ⟨g1, o1, c, rfl, hg1, hc, hcc⟩ := (C9.out.to hbe).at_ (j := j) (by rw [HM.out]; exact hlt)
      have hltI : (j : Int) < (m : Int) := by omega
      have hc64 := HC64.out c (List.mem_of_getElem? hc)
      have HNO := Lib.hid (met_no (HFR.out j c hc))
      have HSN := Lib.hid (show met (cl.take (j + 1)) = (met (cl.take j)).push { key := .int .i64 (c : Int), val := .int .i64 1, born := j } by rw [Bk.take_snoc hc, met_snoc, List.length_take, HM.out, Nat.min_eq_left hj])
      have g0 : decide ((c : Int) < 0) = false := decide_eq_false (by omega)
      have g63 : decide ((63 : Int) < (c : Int)) = false := decide_eq_false (by omega)
      have HMP := Lib.hid hmap
      have HBE := Lib.hid hbe
      clear hc hc64 hmap hbe
      go_wp2_with (first
        | (refine wpList_look0 rfl 42 (.tmp 117) (.tmp 118) rfl w9.heap.size (.int .i64 (c : Int)) (.int .i64 0) rfl rfl (run_look0 42 3 3 (.int .i64) (.int .i64 (c : Int)) Try.underlying42 Try.underlying3 rfl HMP.out _ (.inr ⟨HNO.out, zero_int _⟩)) ?_)
        | (refine wpList_update rfl 42 (.tmp 117) (.tmp 118) (.tmp 120) rfl 3 3 (.int .i64) w9.heap.size (.int .i64 (c : Int)) (.int .i64 1) Try.underlying42 Try.underlying3 rfl rfl rfl HMP.out rfl HNO.out ?_; intro w5 m5 k5; rw [← HSN.out] at m5; have M5 := Lib.hid m5; have K5 := Lib.hid k5; clear m5 k5))
      go_roundw
      case rel => exact ⟨j + 1, by omega, by go_num, M5.out, HBE.out.trans (K5.out.below (Nat.le_refl _))⟩
      case measure => simp [intOf]; omega
    · obtain rfl : j = m := by omega
      rw [List.take_of_length_le (by rw [HM.out]; exact Nat.le_refl _)] at hmap
      rename World => wx
      have HMP := Lib.hid hmap
      have Xr := Lib.hid (X9.out.to hbe)
      have SAr := Lib.hid (SA9.out.to hbe)
      have Lr := Lib.hid (L9.out.to hbe)
      have Br := Lib.hid (B9.out.trans (hbe.mono B9.out.size))
      clear hmap hbe C9 X9 SA9 L9 B9 HC64 HFR
      go_wp2
      go_loopw [124] (fun i w2 => ∃ q : Nat, q ≤ 64 ∧ i = .int .i64 q ∧ Below wx.heap.size wx w2) (fun i _ => 64 - (intOf i).toNat)
      case atStart => exact ⟨0, by omega, rfl, Below.refl _ _⟩
      case round =>
        obtain ⟨q, hq, rfl, hbe⟩ := hrel
        rename World => wy
        by_cases hlt : q < 64
        · have hltI : (q : Int) < 64 := by omega
          have c0a : wy.cell? ⟨ga, q, none⟩ = _ := sq_gw1 (SAr.out.to hbe) (by rw [HLA.out]; omega)
          have hga := sq_lt1 (SAr.out.to hbe) (by rw [HLA.out]; omega)
          have HGO := Lib.hid (gw_over (a := a) (P := P) (q := q) (by rw [HLA.out]; exact hlt))
          have HBE := Lib.hid hbe
          clear hbe
          generalize gw a q = va at *
          go_wp2
          go_loopw [22, 23, 133] (fun v u i w3 => ∃ j : Nat, j ≤ n ∧ i = .int .i64 j ∧ v = .int .u16 ((Bk.say (P.take j) q va : Nat) : Int) ∧ u = .int .i64 ((Bk.one (P.take j) q : Nat) : Int) ∧ Below wx.heap.size wx w3) (fun v u i _ => n - (intOf i).toNat)
          case atStart => exact ⟨0, by omega, rfl, rfl, rfl, HBE.out⟩
          case round =>
            obtain ⟨j, hj, rfl, rfl, rfl, hbe⟩ := hrel
            rename World => wz
            have HBE := Lib.hid hbe
            by_cases hjn : j < n
            · have hjnI : (j : Int) < (n : Int) := by omega
              obtain ⟨g1, o1, x, rfl, hg1, hx, hxo, hx0, hx1⟩ := (Lr.out.to hbe).at_ (k := j) (by rw [HN.out]; exact hjn)
              have hp : P[j]? = some x.pr := by rw [← HP.out]; exact prs_get hx
              have hf := Bk.fits_iff.1 (HFP.out x.pr (List.mem_of_getElem? hp))
              obtain ⟨s, hs⟩ : ∃ s : Nat, x.a = (s : Int) := ⟨x.a.toNat, by have := hf.2.1; exact (Int.toNat_of_nonneg this).symm⟩
              obtain ⟨m2, hm2⟩ : ∃ m, x.ws.length = m := ⟨_, rfl⟩
              rw [hs] at hx0
              rw [hm2] at hx1
              have hs64 : s < 64 := by have h1 : x.a < 64 := hf.2.2.1; omega
              have hm14 : m2 ≤ 14 := by have h1 : x.ws.length ≤ 14 := hf.1; omega
              have hsm : s + m2 ≤ 64 := by have h1 : x.a + (x.ws.length : Int) ≤ 64 := hf.2.2.2; omega
              have HIT := Lib.hid (show Bk.hits x.pr q = decide (s ≤ q ∧ q < s + m2) by
                unfold Bk.hits
                show decide (x.a ≤ (q : Int) ∧ (q : Int) < x.a + (x.ws.length : Int)) = _
                rw [hs, hm2]
                exact decide_eq_decide.2 (by omega))
              have HPS := Lib.hid hp
              have HXM := Lib.hid hm2
              have HXS := Lib.hid hs
              have HXO := Lib.hid hxo.sq
              have hgr : g1 < wz.heap.size := hg1
              have hbz := HBE.out.size
              clear hbe hp hf hs hm2 hx hxo
              go_upto_region 26 with fail
              obtain ⟨W, hW⟩ : ∃ W, wz.alloc (.cells #[.int .i64 (s : Int), .slice x.A m2 x.c] 34) = W := ⟨_, rfl⟩
              have w0 : W.cell? ⟨wz.heap.size, 0, none⟩ = some (.int .i64 (s : Int)) := by rw [← hW]; simp [go_sem]
              have w1 : W.cell? ⟨wz.heap.size, 1, none⟩ = some (.slice x.A m2 x.c) := by rw [← hW]; simp [go_sem]
              have wl : wz.heap.size < W.heap.size := by rw [← hW]; simp
              have ba : Below wz.heap.size wz W := by rw [← hW]; exact bel_alloc (Below.refl _ _) _
              rw [hW]
              have BW := Lib.hid (HBE.out.trans (ba.mono HBE.out.size))
              have SW := Lib.hid (HXO.out.below ba)
              clear hW ba HBE HXO
              generalize wz.heap.size = gz at *
              by_cases hsq : s ≤ q
              · have hsqI : (s : Int) ≤ (q : Int) := by omega
                by_cases hqm : q < s + m2
                · have hqmI : (q : Int) < (s : Int) + (m2 : Int) := by omega
                  obtain ⟨u, hu⟩ : ∃ u, q = s + u := ⟨q - s, by omega⟩
                  have hum : u < m2 := by omega
                  obtain ⟨g4, o4, v, hA, hg4, hv, hvc⟩ := SW.out.at_ (j := u) (by rw [HXM.out]; exact hum)
                  rw [hA] at w1 ⊢
                  have husI : (q : Int) - (s : Int) = (u : Int) := by omega
                  have humI : (u : Int) < (m2 : Int) := by omega
                  have hg4W : g4 < W.heap.size := by omega
                  have HH : Bk.hits x.pr q = true := by rw [HIT.out]; exact decide_eq_true ⟨hsq, hqm⟩
                  have HSY := Lib.hid (show Bk.say (P.take (j + 1)) q va = v by
                    rw [Bk.say_hit HPS.out HH]
                    show x.ws.getD ((q : Int) - x.a).toNat 0 = v
                    rw [HXS.out, husI, List.getD_eq_getElem?_getD, Int.toNat_natCast, hv]
                    rfl)
                  have HON1 := Lib.hid (Bk.one_hit HPS.out HH)
                  clear hu hv hA HH
                  go_wp2
                  go_roundw
                  case rel => exact ⟨j + 1, by omega, by go_num, by rw [HSY.out], by rw [HON1.out]; rfl, BW.out⟩
                  case measure => simp [intOf]; omega
                · have hqmI : ¬ (q : Int) < (s : Int) + (m2 : Int) := by omega
                  have HH : Bk.hits x.pr q = false := by rw [HIT.out]; exact decide_eq_false (fun h => hqm h.2)
                  have HSY := Lib.hid (Bk.say_miss (d := va) HPS.out HH)
                  have HON1 := Lib.hid (Bk.one_miss HPS.out HH)
                  clear HH
                  go_wp2
                  go_roundw
                  case rel => exact ⟨j + 1, by omega, by go_num, by rw [HSY.out], by rw [HON1.out], BW.out⟩
                  case measure => simp [intOf]; omega
              · have hsqI : ¬ (s : Int) ≤ (q : Int) := by omega
                have HH : Bk.hits x.pr q = false := by rw [HIT.out]; exact decide_eq_false (fun h => hsq h.1)
                have HSY := Lib.hid (Bk.say_miss (d := va) HPS.out HH)
                have HON1 := Lib.hid (Bk.one_miss HPS.out HH)
                clear HH
                go_wp2
                go_roundw
                case rel => exact ⟨j + 1, by omega, by go_num, by rw [HSY.out], by rw [HON1.out], BW.out⟩
                case measure => simp [intOf]; omega
            · obtain rfl : j = n := by omega
              rw [List.take_of_length_le (by rw [← HP.out]; simp [HN.out])]
              have cx : wz.cell? ⟨g3, q, none⟩ = _ := sq_gw1 (Xr.out.to hbe) (by rw [HO.out]; exact hlt)
              have hg3 := sq_lt1 (Xr.out.to hbe) (by rw [HO.out]; decide)
              rw [HGO.out] at cx
              have hmk := met_look (w := wz) cl q (Bk.one P q) (HON.out q hlt) (HMP.out.to hbe)
              clear hbe
              generalize Bk.say P q va = vx at *
              generalize Bk.one P q = ox at *
              go_wp2
              go_roundw
              case rel => exact ⟨q + 1, by omega, by go_num, HBE.out⟩
              case measure => simp [intOf]; omega
        · obtain rfl : q = 64 := by omega
          have Bq := Lib.hid (Br.out.trans (hbe.mono Br.out.size))
          clear hbe
          go_wp2_with fail
          refine (awake_any wy).mono ?_
          rintro e w11 ⟨rfl, b11⟩
          go_wp2
          go_ret
          exact ⟨rfl, Bq.out.trans (b11.mono Bq.out.size)⟩
end Go.Proofs.Ytkilpiiljpeamaa
