/- The walk of saucierlaw17.BankTells. -/
import Derived.Test.YtkilpiiljpeamaaAwk17
import Derived.Test.YtkilpiiljpeamaaRf17o
import Derived.Test.YtkilpiiljpeamaaRf17s
import Derived.Test.YtkilpiiljpeamaaRfDif
import Derived.Test.YtkilpiiljpeamaaSameB
import Derived.Test.YtkilpiiljpeamaaApartLaw
namespace Go.Proofs.Ytkilpiiljpeamaa
open Go.RowKit
set_option linter.unusedVariables false
set_option linter.unusedSimpArgs false
attribute [local go_sem] Later.cell Later.frozen setCell_twice
def ovx (bank : List Nat) (l : List Bk.Pr) : List Nat := if bank.length = 64 ∧ Bk.fit l = true then Bk.over bank l else []
def ovz (bank : List Nat) (l : List Bk.Pr) : Int := if bank.length = 64 then (if Bk.fit l = true then 0 else 20) else 21
def clx (l : List Bk.Pr) : List Int := if Bk.fit l = true then (Bk.cells l).map (fun x : Nat => (x : Int)) else []
def clz (l : List Bk.Pr) : Int := if Bk.fit l = true then 0 else 20
def dfx (a b : List Nat) : List Bk.Pr := if a.length = 64 ∧ b.length = 64 then dif b (difs a b 64) else []
def dfz (a b : List Nat) : Int := if a.length = 64 ∧ b.length = 64 then 0 else 21
theorem ovx_length (bank : List Nat) (l : List Bk.Pr) : (ovx bank l).length ≤ 64 := by
  unfold ovx
  split
  · next h => rw [Bk.over_length]; omega
  · exact Nat.zero_le _
theorem clx_length (l : List Bk.Pr) : (clx l).length ≤ 64 := by
  unfold clx
  split
  · rw [List.length_map]; exact Bk.cells_length l
  · exact Nat.zero_le _
theorem Sq.none {α : Type} {f : α → Value} {w : World} {B : Nat} {A : Option Addr} : Sq f w B A [] := fun h => absurd h (Nat.lt_irrefl 0)
theorem Sq.mapped {α β : Type} {f : α → Value} {g : β → Value} {w : World} {B : Nat} {A : Option Addr} {l : List α} (h : Sq f w B A l) (m : α → β) (hm : ∀ x, f x = g (m x)) : Sq g w B A (l.map m) := fun hn => by
  obtain ⟨b, o, hA, hb, hc⟩ := h (by simpa using hn)
  refine ⟨b, o, hA, hb, fun j y hy => ?_⟩
  rw [List.getElem?_map] at hy
  cases hx : l[j]? with
  | none => rw [hx] at hy; cases hy
  | some x =>
    rw [hx] at hy
    obtain rfl : m x = y := by simpa using hy
    rw [← hm]
    exact hc j x hx
theorem OverP.vals {bank : List Nat} {l : List Bk.Pr} {w w' : World} {e : Ending} (h : OverP bank l w e w') : ∃ A c, e = .returned (.tuple #[.slice A (ovx bank l).length c, .int .i64 (ovz bank l)]) ∧ Sq u16w w' w'.heap.size A (ovx bank l) ∧ Below w.heap.size w w' := by
  obtain ⟨hb, h⟩ := h
  unfold ovx ovz
  by_cases h1 : bank.length = 64
  · by_cases h2 : Bk.fit l = true
    · rw [if_pos h1, if_pos h2] at h
      obtain ⟨A, c, he, ho⟩ := h
      rw [if_pos ⟨h1, h2⟩, if_pos h1, if_pos h2, Bk.over_length, h1]
      exact ⟨A, c, he, Sq.of_own ho, hb⟩
    · rw [if_pos h1, if_neg h2] at h
      rw [if_neg (fun hc => h2 hc.2), if_pos h1, if_neg h2]
      exact ⟨_, _, h, Sq.none, hb⟩
  · rw [if_neg h1] at h
    rw [if_neg (fun hc => h1 hc.1), if_neg h1]
    exact ⟨_, _, h, Sq.none, hb⟩
theorem CellsP.vals {l : List Bk.Pr} {w w' : World} {e : Ending} (h : CellsP l w e w') : ∃ A c, e = .returned (.tuple #[.slice A (clx l).length c, .int .i64 (clz l)]) ∧ Sq intv w' w'.heap.size A (clx l) ∧ Below w.heap.size w w' := by
  obtain ⟨hb, h⟩ := h
  unfold clx clz
  by_cases h2 : Bk.fit l = true
  · rw [if_pos h2] at h
    obtain ⟨A, c, he, ho⟩ := h
    rw [if_pos h2, if_pos h2, List.length_map]
    exact ⟨A, c, he, (Sq.of_own ho).mapped _ (fun _ => rfl), hb⟩
  · rw [if_neg h2] at h
    rw [if_neg h2, if_neg h2]
    exact ⟨_, _, h, Sq.none, hb⟩
theorem dif_law {a b : List Nat} (hb : b.length = 64) (hu : ∀ x ∈ b, x < 65536) : ∀ p ∈ dif b (difs a b 64), 0 ≤ p.1 ∧ p.1 < 64 ∧ (∀ x ∈ p.2, x < 65536) ∧ p.2.length ≤ 64 := by
  intro p hp
  rw [dif_iv hb 64 (Nat.le_refl _)] at hp
  obtain ⟨q, hq, rfl⟩ := List.mem_map.1 hp
  have h := (iv_ok a b 64).ok q hq
  have h1 := h.lt
  have h2 := h.le
  refine ⟨by show (0 : Int) ≤ (q.1 : Int); omega, by show (q.1 : Int) < 64; omega, fun x hx => hu x (List.mem_of_mem_drop (List.mem_of_mem_take hx)), ?_⟩
  rw [cutb_length (by omega)]
  omega
theorem dfx_short {a b : List Nat} (hu : ∀ x ∈ b, x < 65536) {bl : List Blk} (hp : prs bl = dfx a b) : ∀ y ∈ bl, y.ws.length ≤ 140737488355328 := fun y hy => by
  have h1 : y.pr ∈ dfx a b := by rw [← hp]; exact List.mem_map_of_mem hy
  unfold dfx at h1
  split at h1
  · next h => have h2 : y.ws.length ≤ 64 := (dif_law h.2 hu y.pr h1).2.2.2; omega
  · cases h1
theorem dfx_length (a b : List Nat) : (dfx a b).length ≤ 64 := by
  unfold dfx
  split
  · next h => exact (dif_fine a b h.2 64 (Nat.le_refl _)).len
  · exact Nat.zero_le _
theorem DiffQ.vals {a b : List Nat} {w w' : World} {e : Ending} (hu : ∀ x ∈ b, x < 65536) (h : DiffQ a b w e w') : ∃ bl A c, e = .returned (.tuple #[.slice A (bl : List Blk).length c, .int .i64 (dfz a b)]) ∧ prs bl = dfx a b ∧ Blks w' w'.heap.size A bl ∧ bl.length ≤ c ∧ Below w.heap.size w w' := by
  obtain ⟨hb, h⟩ := h
  unfold dfx dfz
  by_cases h1 : a.length = 64 ∧ b.length = 64
  · rw [if_pos h1] at h
    obtain ⟨bl, A, c, he, hp, ho, hy⟩ := h
    rw [if_pos h1, if_pos h1]
    obtain ⟨A', c', hv, _, h2, _⟩ := own_form2 ho
    obtain ⟨rfl, rfl⟩ : A = A' ∧ c = c' := by simpa using hv
    exact ⟨bl, A, c, he, hp, diff_blks h1.2 hu hp ho hy (fun p hp => ⟨(dif_law h1.2 hu p hp).1, (dif_law h1.2 hu p hp).2.1, (dif_law h1.2 hu p hp).2.2.1⟩), h2, hb⟩
  · rw [if_neg h1] at h
    rw [if_neg h1, if_neg h1]
    exact ⟨[], none, 0, h, rfl, Blks.nil, Nat.le_refl _, hb⟩
theorem RDiffQ.vals {a b : List Nat} {w w' : World} {e : Ending} (h : RDiffQ a b w e w') : ∃ bl A c, e = .returned (.tuple #[.slice A (bl : List Blk).length c, .int .i64 (dfz a b)]) ∧ prs bl = dfx a b ∧ Blks w' w'.heap.size A bl ∧ bl.length ≤ c ∧ Below w.heap.size w w' := by
  obtain ⟨hb, h⟩ := h
  unfold dfx dfz
  by_cases h1 : a.length = 64 ∧ b.length = 64
  · rw [if_pos h1] at h
    obtain ⟨bl, A, c, he, hp, ho, hy⟩ := h
    rw [if_pos h1, if_pos h1]
    exact ⟨bl, A, c, he, hp, ho, hy, hb⟩
  · rw [if_neg h1] at h
    rw [if_neg h1, if_neg h1]
    exact ⟨[], none, 0, h, rfl, Blks.nil, Nat.le_refl _, hb⟩
set_option maxRecDepth 100000 in
set_option maxHeartbeats 3000000 in
theorem bankTells_walk (A0 : Option Addr) (a : List Nat) (c0 : Nat) (A1 : Option Addr) (b : List Nat) (c1 : Nat) (A2 : Option Addr) (l : List Blk) (c2 : Nat) (A3 : Option Addr) (m : List Blk) (c3 : Nat) (w : World)
    (h0 : Sq u16w w w.heap.size A0 a) (hl0 : a.length ≤ c0) (hc0 : c0 ≤ 9223372036854775807) (hn0 : A0 = none → c0 = 0)
    (h1 : Sq u16w w w.heap.size A1 b) (hu1 : ∀ x ∈ b, x < 65536) (hl1 : b.length ≤ c1) (hc1 : c1 ≤ 9223372036854775807)
    (h2 : Blks w w.heap.size A2 l) (hl2 : l.length ≤ c2) (hc2 : c2 ≤ 9223372036854775807) (h3 : Blks w w.heap.size A3 m) (hl3 : m.length ≤ c3) (hc3 : c3 ≤ 9223372036854775807) :
    Calls Try.prog 6 #[.slice A0 a.length c0, .slice A1 b.length c1, .slice A2 l.length c2, .slice A3 m.length c3] w fun e w' => e = .returned (.bool true) ∧ Below w.heap.size w w' := by
  obtain ⟨i0, hif, hz0, hz1, hz2⟩ := info_parts info_w16
  obtain ⟨na, hna⟩ : ∃ n, a.length = n := ⟨_, rfl⟩
  obtain ⟨nb, hnb⟩ : ∃ n, b.length = n := ⟨_, rfl⟩
  obtain ⟨nl, hnl⟩ : ∃ n, l.length = n := ⟨_, rfl⟩
  obtain ⟨nm, hnm⟩ : ∃ n, m.length = n := ⟨_, rfl⟩
  rw [hna] at hl0 ⊢
  rw [hnb] at hl1 ⊢
  rw [hnl] at hl2 ⊢
  rw [hnm] at hl3 ⊢
  have HNA := Lib.hid hna
  have HNB := Lib.hid hnb
  have HNL := Lib.hid hnl
  have HNM := Lib.hid hnm
  have H0 := Lib.hid h0
  have H1 := Lib.hid h1
  have H2 := Lib.hid h2
  have H3 := Lib.hid h3
  have HU := Lib.hid hu1
  clear hna hnb hnl hnm h0 h1 h2 h3 hu1
  by_cases hp1 : 80 < na
  · have g1 : decide ((80 : Int) < (na : Int)) = true := decide_eq_true (by omega)
    have BB := Lib.hid (Below.refl w.heap.size w)
    go_enter Try.func6, Try.ntmps6
    go_wp2_with fail
    refine (awake_any _).mono ?_
    rintro e w9 ⟨rfl, b9⟩
    have B9 := Lib.hid (BB.out.trans (b9.mono BB.out.size))
    clear b9
    go_wp2
    go_ret
    exact ⟨rfl, B9.out⟩
  have g1 : decide ((80 : Int) < (na : Int)) = false := decide_eq_false (by omega)
  by_cases hp2 : 80 < nb
  · have g2 : decide ((80 : Int) < (nb : Int)) = true := decide_eq_true (by omega)
    have BB := Lib.hid (Below.refl w.heap.size w)
    go_enter Try.func6, Try.ntmps6
    go_wp2_with fail
    refine (awake_any _).mono ?_
    rintro e w9 ⟨rfl, b9⟩
    have B9 := Lib.hid (BB.out.trans (b9.mono BB.out.size))
    clear b9
    go_wp2
    go_ret
    exact ⟨rfl, B9.out⟩
  have g2 : decide ((80 : Int) < (nb : Int)) = false := decide_eq_false (by omega)
  obtain ⟨r1, hr1⟩ : ∃ r, light l = r := ⟨_, rfl⟩
  obtain ⟨r2, hr2⟩ : ∃ r, light m = r := ⟨_, rfl⟩
  have HR1 := Lib.hid hr1
  have HR2 := Lib.hid hr2
  clear hr1 hr2
  go_enter Try.func6, Try.ntmps6
  go_wp2_with fail
  refine (light_any A2 l c2 nl r1 w HNL.out H2.out hl2 hc2 HR1.out).mono ?_
  rintro e w1 ⟨rfl, b1⟩
  cases r1
  · have BB := Lib.hid b1
    clear b1
    go_wp2_with fail
    refine (awake_any _).mono ?_
    rintro e w9 ⟨rfl, b9⟩
    have B9 := Lib.hid (BB.out.trans (b9.mono BB.out.size))
    clear b9
    go_wp2
    go_ret
    exact ⟨rfl, B9.out⟩
  have S1 := Lib.hid (H0.out.to b1)
  have T1 := Lib.hid (H1.out.to b1)
  have L1 := Lib.hid (H2.out.to b1)
  have M1 := Lib.hid (H3.out.to b1)
  have B1 := Lib.hid b1
  clear b1 H0 H1 H2 H3
  go_wp2_with fail
  refine (light_any A3 m c3 nm r2 w1 HNM.out M1.out hl3 hc3 HR2.out).mono ?_
  rintro e w2 ⟨rfl, b2⟩
  cases r2
  · have BB := Lib.hid (B1.out.trans (b2.mono B1.out.size))
    clear b2
    go_wp2_with fail
    refine (awake_any _).mono ?_
    rintro e w9 ⟨rfl, b9⟩
    have B9 := Lib.hid (BB.out.trans (b9.mono BB.out.size))
    clear b9
    go_wp2
    go_ret
    exact ⟨rfl, B9.out⟩
  have S2 := Lib.hid (S1.out.to b2)
  have T2 := Lib.hid (T1.out.to b2)
  have L2 := Lib.hid (L1.out.to b2)
  have M2 := Lib.hid (M1.out.to b2)
  have B2 := Lib.hid (B1.out.trans (b2.mono B1.out.size))
  clear b2 S1 T1 L1 M1 B1
  have hLL : (∀ y ∈ l, y.ws.length ≤ 100) ∧ l.length ≤ 40 := of_decide_eq_true HR1.out
  have hnl40 : nl ≤ 40 := by have := hLL.2; rw [HNL.out] at this; exact this
  have HWL : Hid (∀ y ∈ l, y.ws.length ≤ 140737488355328) := Lib.hid (fun y hy => by have := hLL.1 y hy; omega)
  clear hLL
  have HE := Lib.hid (own_empty w2 25 .u16)
  go_wp2_with (at_builtin; (refine wpList_append_sq (f := u16w) _ rfl _ _ 22 rfl (fun _ => rfl) w2.heap.size 25 i0 _ _ Try.underlying22 hif hz0 rfl hz1 hz2 (by decide) _ [] rfl HE.out w2.heap.size A0 a c0 na HNA.out rfl (S2.out.alloc (Nat.le_refl _) _) hn0 (by simp; omega) (by simp) ?_; intro A8 c8 w3 o8 hg8 hb8; rw [List.nil_append, HNA.out] at o8 ⊢; have b3 : Hid (Below w2.heap.size w2 w3) := Lib.hid ((bel_alloc (Below.refl _ _) _).trans hb8); have W3 := Lib.hid (show Sq u16w w3 w3.heap.size A8 a from Sq.of_own o8); clear hg8 hb8 o8))
  have S3 := Lib.hid (S2.out.to b3.out)
  have T3 := Lib.hid (T2.out.to b3.out)
  have L3 := Lib.hid (L2.out.to b3.out)
  have M3 := Lib.hid (M2.out.to b3.out)
  have B3 := Lib.hid (B2.out.trans (b3.out.mono B2.out.size))
  clear b3 S2 T2 L2 M2 B2
  have HXL := Lib.hid (ovx_length a (prs l))
  have HCL := Lib.hid (clx_length (prs l))
  have HDL := Lib.hid (dfx_length a b)
  obtain ⟨xs, hxs⟩ : ∃ xs, ovx a (prs l) = xs := ⟨_, rfl⟩
  obtain ⟨xz, hxz⟩ : ∃ xz, ovz a (prs l) = xz := ⟨_, rfl⟩
  obtain ⟨cs, hcs⟩ : ∃ cs, clx (prs l) = cs := ⟨_, rfl⟩
  obtain ⟨cz, hcz⟩ : ∃ cz, clz (prs l) = cz := ⟨_, rfl⟩
  obtain ⟨ds, hds⟩ : ∃ ds, dfx a b = ds := ⟨_, rfl⟩
  obtain ⟨dz, hdz⟩ : ∃ dz, dfz a b = dz := ⟨_, rfl⟩
  rw [hxs] at HXL
  rw [hcs] at HCL
  rw [hds] at HDL
  have HXS := Lib.hid hxs
  have HXZ := Lib.hid hxz
  have HCS := Lib.hid hcs
  have HCZ := Lib.hid hcz
  have HDS := Lib.hid hds
  have HDZ := Lib.hid hdz
  clear hxs hxz hcs hcz hds hdz
  obtain ⟨nx, hnx⟩ : ∃ n, xs.length = n := ⟨_, rfl⟩
  obtain ⟨nc, hnc⟩ : ∃ n, cs.length = n := ⟨_, rfl⟩
  rw [hnx] at HXL
  rw [hnc] at HCL
  have HNX := Lib.hid hnx
  have HNC := Lib.hid hnc
  clear hnx hnc
  refine (over_any A0 a c0 na A2 l c2 nl w3 S3.out HNA.out hn0 HNL.out L3.out (by omega)).mono ?_
  rintro e w4 h4
  obtain ⟨Ax, cx, rfl, x4, b4⟩ := h4.vals
  rw [HXS.out] at x4
  have X4 := Lib.hid x4
  rw [HXS.out, HXZ.out, HNX.out]
  clear h4 x4
  have S4 := Lib.hid (S3.out.to b4)
  have T4 := Lib.hid (T3.out.to b4)
  have L4 := Lib.hid (L3.out.to b4)
  have M4 := Lib.hid (M3.out.to b4)
  have W4 := Lib.hid (W3.out.to b4)
  have B4 := Lib.hid (B3.out.trans (b4.mono B3.out.size))
  clear b4 S3 T3 L3 M3 W3 B3
  go_wp2_with fail
  refine (rover_any A0 a c0 na A2 l c2 nl w4 S4.out HNA.out HNL.out L4.out (by omega)).mono ?_
  rintro e w5 h5
  obtain ⟨Ay, cy, rfl, y5, b5⟩ := h5.vals
  rw [HXS.out] at y5
  have Y5 := Lib.hid y5
  rw [HXS.out, HXZ.out, HNX.out]
  clear h5 y5
  have S5 := Lib.hid (S4.out.to b5)
  have T5 := Lib.hid (T4.out.to b5)
  have L5 := Lib.hid (L4.out.to b5)
  have M5 := Lib.hid (M4.out.to b5)
  have W5 := Lib.hid (W4.out.to b5)
  have X5 := Lib.hid (X4.out.to b5)
  have B5 := Lib.hid (B4.out.trans (b5.mono B4.out.size))
  clear b5 S4 T4 L4 M4 W4 X4 B4
  go_wp2_with fail
  refine (cells_any A2 l c2 nl w5 HNL.out L5.out (by omega)).mono ?_
  rintro e w6 h6
  obtain ⟨Ac, cc, rfl, c6, b6⟩ := h6.vals
  rw [HCS.out] at c6
  have C6 := Lib.hid c6
  rw [HCS.out, HCZ.out, HNC.out]
  clear h6 c6
  have S6 := Lib.hid (S5.out.to b6)
  have T6 := Lib.hid (T5.out.to b6)
  have L6 := Lib.hid (L5.out.to b6)
  have M6 := Lib.hid (M5.out.to b6)
  have W6 := Lib.hid (W5.out.to b6)
  have X6 := Lib.hid (X5.out.to b6)
  have Y6 := Lib.hid (Y5.out.to b6)
  have B6 := Lib.hid (B5.out.trans (b6.mono B5.out.size))
  clear b6 S5 T5 L5 M5 W5 X5 Y5 B5
  go_wp2_with fail
  refine (rcells_any A2 l c2 nl w6 HNL.out L6.out (by omega)).mono ?_
  rintro e w7 h7
  obtain ⟨Ad, cd, rfl, d7, b7⟩ := h7.vals
  rw [HCS.out] at d7
  have D7 := Lib.hid d7
  rw [HCS.out, HCZ.out, HNC.out]
  clear h7 d7
  have S7 := Lib.hid (S6.out.to b7)
  have T7 := Lib.hid (T6.out.to b7)
  have L7 := Lib.hid (L6.out.to b7)
  have M7 := Lib.hid (M6.out.to b7)
  have W7 := Lib.hid (W6.out.to b7)
  have X7 := Lib.hid (X6.out.to b7)
  have Y7 := Lib.hid (Y6.out.to b7)
  have C7 := Lib.hid (C6.out.to b7)
  have B7 := Lib.hid (B6.out.trans (b7.mono B6.out.size))
  clear b7 S6 T6 L6 M6 W6 X6 Y6 C6 B6
  go_wp2_with fail
  refine (diff_all A0 A1 a b c0 c1 na nb w7 S7.out T7.out HNA.out HNB.out hl1).mono ?_
  rintro e w8 h8
  obtain ⟨pl, Ap, cp, rfl, hp, p8, hpc, b8⟩ := h8.vals HU.out
  rw [HDZ.out]
  rw [HDS.out] at hp
  have P8 := Lib.hid p8
  have HP := Lib.hid hp
  obtain ⟨np, hnp⟩ : ∃ n, pl.length = n := ⟨_, rfl⟩
  rw [hnp] at hpc ⊢
  have HNP := Lib.hid hnp
  have hnp64 : np ≤ 64 := by have h1 := congrArg List.length hp; simp only [prs, List.length_map] at h1; have := HDL.out; omega
  clear h8 p8 hp hnp
  have S8 := Lib.hid (S7.out.to b8)
  have T8 := Lib.hid (T7.out.to b8)
  have L8 := Lib.hid (L7.out.to b8)
  have M8 := Lib.hid (M7.out.to b8)
  have W8 := Lib.hid (W7.out.to b8)
  have X8 := Lib.hid (X7.out.to b8)
  have Y8 := Lib.hid (Y7.out.to b8)
  have C8 := Lib.hid (C7.out.to b8)
  have D8 := Lib.hid (D7.out.to b8)
  have B8 := Lib.hid (B7.out.trans (b8.mono B7.out.size))
  clear b8 S7 T7 L7 M7 W7 X7 Y7 C7 D7 B7
  go_wp2_with fail
  refine (rdiff_any A0 A1 a b c0 c1 na nb w8 S8.out T8.out HU.out HNA.out HNB.out hl1).mono ?_
  rintro e w9 h9
  obtain ⟨ql, Aq, cq, rfl, hq, q9, hqc, b9⟩ := h9.vals
  rw [HDZ.out]
  rw [HDS.out] at hq
  have Q9 := Lib.hid q9
  have HQ := Lib.hid hq
  obtain ⟨nq, hnq⟩ : ∃ n, ql.length = n := ⟨_, rfl⟩
  rw [hnq] at hqc ⊢
  have HNQ := Lib.hid hnq
  clear h9 q9 hq hnq
  have S9 := Lib.hid (S8.out.to b9)
  have T9 := Lib.hid (T8.out.to b9)
  have L9 := Lib.hid (L8.out.to b9)
  have M9 := Lib.hid (M8.out.to b9)
  have W9 := Lib.hid (W8.out.to b9)
  have X9 := Lib.hid (X8.out.to b9)
  have Y9 := Lib.hid (Y8.out.to b9)
  have C9 := Lib.hid (C8.out.to b9)
  have D9 := Lib.hid (D8.out.to b9)
  have P9 := Lib.hid (P8.out.to b9)
  have B9 := Lib.hid (B8.out.trans (b9.mono B8.out.size))
  clear b9 S8 T8 L8 M8 W8 X8 Y8 C8 D8 P8 B8
  have gx : ((xz : Int) != xz) = false := by simp
  have gc : ((cz : Int) != cz) = false := by simp
  have gd : ((dz : Int) != dz) = false := by simp
  go_wp2_with fail
  refine (lowWords_any Ax Ay xs xs cx cy nx nx true w9 HNX.out HNX.out X9.out Y9.out (by rw [HNX.out]; have := HXL.out; omega) (decide_eq_true rfl)).mono ?_
  rintro e w10 ⟨rfl, b10⟩
  have S10 := Lib.hid (S9.out.to b10)
  have T10 := Lib.hid (T9.out.to b10)
  have L10 := Lib.hid (L9.out.to b10)
  have M10 := Lib.hid (M9.out.to b10)
  have W10 := Lib.hid (W9.out.to b10)
  have C10 := Lib.hid (C9.out.to b10)
  have D10 := Lib.hid (D9.out.to b10)
  have P10 := Lib.hid (P9.out.to b10)
  have Q10 := Lib.hid (Q9.out.to b10)
  have B10 := Lib.hid (B9.out.trans (b10.mono B9.out.size))
  clear b10 X9 Y9 S9 T9 L9 M9 W9 C9 D9 P9 Q9 B9
  go_wp2_with fail
  refine (lowInts_any Ac Ad cs cs cc cd nc nc true w10 HNC.out HNC.out C10.out D10.out (by rw [HNC.out]; have := HCL.out; omega) (decide_eq_true rfl)).mono ?_
  rintro e w11 ⟨rfl, b11⟩
  have S11 := Lib.hid (S10.out.to b11)
  have L11 := Lib.hid (L10.out.to b11)
  have M11 := Lib.hid (M10.out.to b11)
  have W11 := Lib.hid (W10.out.to b11)
  have P11 := Lib.hid (P10.out.to b11)
  have Q11 := Lib.hid (Q10.out.to b11)
  have B11 := Lib.hid (B10.out.trans (b11.mono B10.out.size))
  clear b11 C10 D10 T10 S10 L10 M10 W10 P10 Q10 B10
  go_wp2_with fail
  refine (lowBlocks_any Ap Aq pl ql cp cq np nq true w11 HNP.out HNQ.out P11.out Q11.out (by rw [HNP.out]; omega) hpc hqc (dfx_short HU.out (HP.out.trans HDS.out.symm)) (decide_eq_true (HP.out.trans HQ.out.symm))).mono ?_
  rintro e w12 ⟨rfl, b12⟩
  have S12 := Lib.hid (S11.out.to b12)
  have L12 := Lib.hid (L11.out.to b12)
  have M12 := Lib.hid (M11.out.to b12)
  have W12 := Lib.hid (W11.out.to b12)
  have B12 := Lib.hid (B11.out.trans (b12.mono B11.out.size))
  clear b12 P11 Q11 S11 L11 M11 W11 B11
  go_wp2_with fail
  refine (lowWords_any A0 A8 a a c0 c8 na na true w12 HNA.out HNA.out S12.out W12.out (by rw [HNA.out]; omega) (decide_eq_true rfl)).mono ?_
  rintro e w13 ⟨rfl, b13⟩
  have L13 := Lib.hid (L12.out.to b13)
  have M13 := Lib.hid (M12.out.to b13)
  have B13 := Lib.hid (B12.out.trans (b13.mono B12.out.size))
  clear b13 S12 W12 L12 M12 B12
  obtain ⟨rs, hrs⟩ : ∃ r, decide (prs l = prs m) = r := ⟨_, rfl⟩
  have HRS := Lib.hid hrs
  clear hrs
  go_wp2_with fail
  refine (sameBlocks_any A2 A3 l m c2 c3 nl nm rs w13 HNL.out HNM.out L13.out M13.out (by rw [HNL.out]; omega) HWL.out HRS.out).mono ?_
  rintro e w14 ⟨rfl, b14⟩
  have L14 := Lib.hid (L13.out.to b14)
  have M14 := Lib.hid (M13.out.to b14)
  have B14 := Lib.hid (B13.out.trans (b14.mono B13.out.size))
  clear b14 L13 M13 B13
  go_wp2_with fail
  refine (rsameB_any A2 A3 l m c2 c3 nl nm rs w14 HNL.out HNM.out L14.out M14.out (by rw [HNL.out]; omega) hl2 hl3 HRS.out).mono ?_
  rintro e w15 ⟨rfl, b15⟩
  have L15 := Lib.hid (L14.out.to b15)
  have B15 := Lib.hid (B14.out.trans (b15.mono B14.out.size))
  clear b15 M14 L14 B14
  have gr : (rs != rs) = false := by simp
  go_wp2
  go_loopw [128] (fun i wr => ∃ k : Nat, k ≤ nl ∧ i = .int .i64 k ∧ Below w15.heap.size w15 wr) (fun i _ => nl - (intOf i).toNat)
  case atStart => exact ⟨0, by omega, rfl, Below.refl _ _⟩
  case round =>
    obtain ⟨k, hk, rfl, hbe⟩ := hrel
    rename World => wx
    by_cases hlt : k < nl
    · obtain ⟨g1, o1, x, rfl, hg1, hx, hxo, hx0, hx1⟩ := (L15.out.to hbe).at_ (k := k) (by rw [HNL.out]; exact hlt)
      have hltI : (k : Int) < (nl : Int) := by omega
      have h0I : (0 : Int) ≤ (k : Int) := by omega
      obtain ⟨f, hf⟩ : ∃ f, Bk.fits x.a x.ws.length = f := ⟨_, rfl⟩
      have hln := hxo.ln
      have hcap := hxo.cap
      have kf := Lib.hid (fun W => fits_any x.a x.ws.length x.c x.A f W hxo.lo hxo.hi (by omega) hf)
      have kr := Lib.hid (fun W => rfits_any x.a x.ws.length x.c x.A f W hxo.lo hxo.hi (by omega) hf)
      have gf : (f != f) = false := by simp
      have HBE := Lib.hid hbe
      have hgr : g1 < wx.heap.size := hg1
      clear hx hxo hf hbe hln hcap
      go_wp2
      refine wp_region_lat (by kernel_rfl) (by kernel_rfl) ?_
      repeat (go_big_quiet_step (fail))
      go_big_quiet_step (exact later_new (kf.out _))
      repeat (go_big_quiet_step (fail))
      go_big_quiet_step (exact later_new (kr.out _))
      repeat (go_big_quiet_step (fail))
      refine wpQuiet_nil ?_
      rintro _ ⟨x3, rfl⟩
      have hz_x3 := x3.bel.size
      try simp at hz_x3
      go_wp2
      go_roundw
      case rel => exact ⟨k + 1, by omega, by go_num, HBE.out.trans ((bel_alloc (Below.refl _ _) _).trans (x3.bel.mono (by simp)) |>.mono HBE.out.size)⟩
      case measure => simp [intOf]; omega
    · obtain rfl : k = nl := by omega
      have BB := Lib.hid (B15.out.trans (hbe.mono B15.out.size))
      clear hbe
      go_wp2_with fail
      refine (awake_any _).mono ?_
      rintro e w9 ⟨rfl, b9⟩
      have B9 := Lib.hid (BB.out.trans (b9.mono BB.out.size))
      clear b9
      go_wp2
      go_ret
      exact ⟨rfl, B9.out⟩
end Go.Proofs.Ytkilpiiljpeamaa
