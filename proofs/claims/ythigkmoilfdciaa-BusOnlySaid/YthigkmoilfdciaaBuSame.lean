/- Layer 11: Same of two rows of parcels. -/
import Derived.Test.YthigkmoilfdciaaBuTick
import Derived.Test.YthigkmoilfdciaaSame
namespace Go.Proofs.Ythigkmoilfdciaa
open Go.RowKit
set_option linter.unusedVariables false
set_option linter.unusedSimpArgs false
attribute [local go_sem] Later.cell Later.frozen setCell_twice
/-- a parcel in memory, its bytes anywhere -/
structure Pc where
  p : Par
  A : Option Addr
  c : Nat
abbrev pcF (x : Pc) : List Value := pmV x.p.s x.p.up x.A x.p.b.length x.c
/-- a row of parcels that can be read -/
structure Pcs (w : World) (B : Nat) (A : Option Addr) (l : List Pc) : Prop where
  recs : Recs pcF 3 w B A l
  byt : ∀ x ∈ l, Sq byw w B x.A x.p.b
  u : ∀ x ∈ l, ∀ y ∈ x.p.b, y < 256
  nl : ∀ x ∈ l, x.A = none → x.c = 0
section
variable {w w' : World} {B B' n c base : Nat} {A : Option Addr} {l : List Pc} {pl : List Pm} {F : List Nat}
theorem Pcs.below (h : Pcs w B A l) (k : Below B w w') : Pcs w' B A l := ⟨h.recs.below k, fun x hx => (h.byt x hx).below k, h.u, h.nl⟩
theorem Pcs.more (h : Pcs w B A l) (k : B ≤ B') : Pcs w B' A l := ⟨h.recs.more k, fun x hx => (h.byt x hx).more k, h.u, h.nl⟩
theorem Pcs.to (h : Pcs w w.heap.size A l) (k : Below w.heap.size w w') : Pcs w' w'.heap.size A l := (h.below k).more k.size
theorem Pcs.nil : Pcs w B A [] := ⟨Recs.nil, by simp, by simp, by simp⟩
theorem Pcs.take (h : Pcs w B A l) (n : Nat) : Pcs w B A (l.take n) := ⟨h.recs.take n, fun x hx => h.byt x (List.mem_of_mem_take hx), fun x hx => h.u x (List.mem_of_mem_take hx), fun x hx => h.nl x (List.mem_of_mem_take hx)⟩
/-- a parcel that came, as one that can be read -/
def Pm.pc (x : Pm) : Pc := ⟨x.p, some ⟨x.g, 0, none⟩, x.c⟩
theorem pc_map (pl : List Pm) : (pl.map Pm.pc).map Pc.p = pl.map Pm.p := by rw [List.map_map]; rfl
theorem pc_flat (pl : List Pm) : (pl.map Pm.pc).flatMap pcF = pl.flatMap pmF := by rw [List.flatMap_map]; rfl
theorem own_recs {l : List Pc} (ho : w.ownsRow base 36 3 (.slice A n c) n (l.flatMap pcF)) (hl : l.length = n) : Recs pcF 3 w w.heap.size A l := fun hn => by
  obtain ⟨g, rfl, hb, hlt⟩ := own_somep ho (by omega)
  refine ⟨g, 0, rfl, hlt, fun j x hx i v hv => ?_⟩
  have hj := (List.getElem?_eq_some_iff.1 hx).1
  have hi : i < 3 := (List.getElem?_eq_some_iff.1 hv).1
  have hfl : ∀ (l : List Pc) (j : Nat) (x : Pc), l[j]? = some x → (l.flatMap pcF)[j * 3 + i]? = (pcF x)[i]? := by
    intro l
    induction l with
    | nil => intro j x h; cases h
    | cons a l ih =>
      intro j x h
      cases j with
      | zero =>
        obtain rfl : a = x := by simpa using h
        rw [List.flatMap_cons, List.getElem?_append_left (by show 0 * 3 + i < 3; omega)]
        simp
      | succ j =>
        rw [List.flatMap_cons, List.getElem?_append_right (by show 3 ≤ (j + 1) * 3 + i; omega)]
        rw [show (j + 1) * 3 + i - (pcF a).length = j * 3 + i from by show (j + 1) * 3 + i - 3 = _; omega]
        exact ih j x (by simpa using h)
  have h := ho.cellAt (j * 3 + i) (by omega)
  rw [hfl l j x hx, hv] at h
  rw [Nat.zero_add]
  exact h
theorem Came.pcs (h : Came w base A n c pl) : Pcs w w.heap.size A (pl.map Pm.pc) := by
  refine ⟨own_recs (by rw [pc_flat]; exact h.own) (by rw [List.length_map]; exact h.len), fun x hx => ?_, fun x hx => ?_, fun x hx hA => ?_⟩
  · obtain ⟨p, hp, rfl⟩ := List.mem_map.1 hx
    exact Sq.of_own (h.byt p hp)
  · obtain ⟨p, hp, rfl⟩ := List.mem_map.1 hx
    exact h.u p hp
  · obtain ⟨p, hp, rfl⟩ := List.mem_map.1 hx
    cases hA
theorem Pcs.at_ (h : Pcs w B A l) {j : Nat} (hj : j < l.length) : ∃ g o x, A = some ⟨g, o, none⟩ ∧ g < B ∧ l[j]? = some x ∧ x ∈ l ∧ Sq byw w B x.A x.p.b ∧ (∀ y ∈ x.p.b, y < 256) ∧ w.cell? ⟨g, o + j * 3, none⟩ = some (.int .i64 x.p.s) ∧ w.cell? ⟨g, o + j * 3 + 1, none⟩ = some (.bool x.p.up) ∧ w.cell? ⟨g, o + j * 3 + 2, none⟩ = some (.slice x.A x.p.b.length x.c) := by
  obtain ⟨g, o, x, hA, hg, hx, hc⟩ := h.recs.at_ hj
  have hm := List.mem_of_getElem? hx
  exact ⟨g, o, x, hA, hg, hx, hm, h.byt x hm, h.u x hm, hc 0 _ rfl, hc 1 _ rfl, hc 2 _ rfl⟩
end
instance (a b : Par) : Decidable (a = b) := decidable_of_iff (a.s = b.s ∧ a.up = b.up ∧ a.b = b.b) ⟨fun ⟨h1, h2, h3⟩ => by cases a; cases b; dsimp only at h1 h2 h3; subst h1 h2 h3; rfl, fun h => by subst h; exact ⟨rfl, rfl, rfl⟩⟩
def pars (l : List Pc) : List Par := l.map Pc.p
set_option maxRecDepth 100000 in
set_option maxHeartbeats 2000000 in
theorem psame_any (A B : Option Addr) (la lb : List Pc) (ca cb na nb : Nat) (w : World) (hna : la.length = na) (hnb : lb.length = nb) (ha : Pcs w w.heap.size A la) (hb : Pcs w w.heap.size B lb) (hn63 : na ≤ 200000) :
    Calls Try.prog 12 #[.slice A na ca, .slice B nb cb] w fun e w' => e = .returned (.bool (decide (pars la = pars lb))) ∧ Below w.heap.size w w' := by
  have HA := Lib.hid ha
  have HB := Lib.hid hb
  have HNA := Lib.hid hna
  have HNB := Lib.hid hnb
  obtain ⟨r, hr⟩ : ∃ r, decide (pars la = pars lb) = r := ⟨_, rfl⟩
  rw [hr]
  have HR := Lib.hid hr
  by_cases hne : na = nb
  · subst hne
    clear ha hb hna hnb hr
    go_enter Try.func12, Try.ntmps12
    go_wp2
    go_loopw [13] (fun i wr => ∃ k : Nat, k ≤ na ∧ i = .int .i64 (k : Int) ∧ Hid ((pars la).take k = (pars lb).take k) ∧ Below w.heap.size w wr) (fun i _ => na - (intOf i).toNat)
    case atStart => exact ⟨0, by omega, rfl, Lib.hid rfl, Below.refl _ _⟩
    case round =>
      rename World => wr
      obtain ⟨k, hk, rfl, heq, hbe⟩ := hrel
      by_cases hlt : k < na
      · obtain ⟨g, o, x, rfl, hg, hx, hxm, hxs, hxu, hx0, hx1, hx2⟩ := (HA.out.to hbe).at_ (j := k) (by rw [HNA.out]; exact hlt)
        obtain ⟨g2, o2, y, rfl, hg2, hy, hym, hys, hyu, hy0, hy1, hy2⟩ := (HB.out.to hbe).at_ (j := k) (by rw [HNB.out]; exact hlt)
        have BE := Lib.hid hbe
        have HX : Hid ((pars la)[k]? = some x.p) := Lib.hid (by rw [pars, List.getElem?_map, hx]; rfl)
        have HY : Hid ((pars lb)[k]? = some y.p) := Lib.hid (by rw [pars, List.getElem?_map, hy]; rfl)
        have hltI : (k : Int) < (na : Int) := by omega
        have h0I : (0 : Int) ≤ (k : Int) := by omega
        have HS1 : Hid ((pars la).take (k + 1) = (pars la).take k ++ [x.p]) := Lib.hid (by rw [List.take_add_one, HX.out]; rfl)
        have HS2 : Hid ((pars lb).take (k + 1) = (pars lb).take k ++ [y.p]) := Lib.hid (by rw [List.take_add_one, HY.out]; rfl)
        obtain ⟨⟨s1, u1, l1⟩, A1, c1⟩ := x
        obtain ⟨⟨s2, u2, l2⟩, A2, c2⟩ := y
        dsimp only at hx0 hx1 hx2 hy0 hy1 hy2 HX HY HS1 HS2 hxs hys hxu hyu
        obtain ⟨m1, hm1⟩ : ∃ m1, l1.length = m1 := ⟨_, rfl⟩
        obtain ⟨m2, hm2⟩ : ∃ m2, l2.length = m2 := ⟨_, rfl⟩
        rw [hm1] at hx2
        rw [hm2] at hy2
        have HSM : Hid (∀ (rb : Bool) (q : Nat), decide (l1 = l2) = rb → Calls Try.prog 21 #[.slice A1 m1 c1, .slice A2 m2 c2] (wr.drewN q) fun e w' => e = .returned (.bool rb) ∧ w' = wr.drewN q) := Lib.hid (fun rb q hrb => (same_by A1 A2 l1 l2 c1 c2 m1 m2 rb _ hm1 hm2 ((hxs.below (bel_drewN (Below.refl _ _) _)).more (by simp)) ((hys.below (bel_drewN (Below.refl _ _) _)).more (by simp)) hxu hyu hrb).mono (fun _ _ h => ⟨h.1, h.2.symm⟩))
        clear hx hy hbe hm1 hm2 hxs hys hxu hyu hxm hym
        by_cases e1 : s1 = s2
        · subst e1
          have g1 : (s1 != s1) = false := by simp
          by_cases e2 : u1 = u2
          · subst e2
            have g2' : (!u1 == u1) = false := by simp
            by_cases e4 : l1 = l2
            · subst e4
              have HSM2 := Lib.hid (fun q => HSM.out true q (by simp))
              clear HSM
              go_wp2
              go_quiet ((go_at_call 21; exact Calls.quiet_of_same (HSM2.out _)))
              go_wp2
              go_roundw
              case rel => exact ⟨k + 1, by omega, by go_num, Lib.hid (by rw [HS1.out, HS2.out, heq.out]), bel_drewN BE.out _⟩
              case measure => simp [intOf]; omega
            · have HSM2 := Lib.hid (fun q => HSM.out false q (by simpa using e4))
              have hne : ¬ (s1 = s1 ∧ u1 = u1 ∧ l1 = l2) := fun h => e4 h.2.2
              clear e4 HSM
              obtain rfl : r = false := by
                rw [← HR.out]
                refine decide_eq_false (fun h => ?_)
                have h2 := Option.some.inj (HX.out.symm.trans ((congrArg (fun z : List Par => z[k]?) h).trans HY.out))
                rw [Par.mk.injEq] at h2
                exact hne h2
              clear hne
              go_wp2
              go_quiet ((go_at_call 21; exact Calls.quiet_of_same (HSM2.out _)))
              go_wp2
              go_ret
              exact ⟨rfl, bel_drewN BE.out _⟩
          · have g2' : (!u1 == u2) = true := by simpa using e2
            have hne : ¬ (s1 = s1 ∧ u1 = u2 ∧ l1 = l2) := fun h => e2 h.2.1
            clear e2
            obtain rfl : r = false := by
              rw [← HR.out]
              refine decide_eq_false (fun h => ?_)
              have h2 := Option.some.inj (HX.out.symm.trans ((congrArg (fun z : List Par => z[k]?) h).trans HY.out))
              rw [Par.mk.injEq] at h2
              exact hne h2
            clear hne
            go_wp2
            go_quiet (fail)
            go_wp2
            go_ret
            exact ⟨rfl, bel_drewN BE.out _⟩
        · have g1 : (s1 != s2) = true := by simpa using e1
          have hne : ¬ (s1 = s2 ∧ u1 = u2 ∧ l1 = l2) := fun h => e1 h.1
          clear e1
          obtain rfl : r = false := by
            rw [← HR.out]
            refine decide_eq_false (fun h => ?_)
            have h2 := Option.some.inj (HX.out.symm.trans ((congrArg (fun z : List Par => z[k]?) h).trans HY.out))
            rw [Par.mk.injEq] at h2
            exact hne h2
          clear hne
          go_wp2
          go_quiet (fail)
          go_wp2
          go_ret
          exact ⟨rfl, bel_drewN BE.out _⟩
      · obtain rfl : k = na := by omega
        obtain rfl : r = true := by
          rw [← HR.out]
          refine decide_eq_true ?_
          have := heq.out
          rwa [List.take_of_length_le (by rw [pars, List.length_map, HNA.out]; exact Nat.le_refl _), List.take_of_length_le (by rw [pars, List.length_map, HNB.out]; exact Nat.le_refl _)] at this
        have BE := Lib.hid hbe
        go_wp2
        go_ret
        exact ⟨rfl, BE.out⟩
  · obtain rfl : r = false := by
      rw [← hr]
      exact decide_eq_false (fun h => hne (by have := congrArg List.length h; simpa [pars, hna, hnb] using this))
    have g : ((na : Int) != (nb : Int)) = true := by simp; omega
    clear ha hb hna hnb hr hne
    go_enter Try.func12, Try.ntmps12
    go_wp2
    go_ret
    exact ⟨rfl, Below.refl _ _⟩
end Go.Proofs.Ythigkmoilfdciaa
