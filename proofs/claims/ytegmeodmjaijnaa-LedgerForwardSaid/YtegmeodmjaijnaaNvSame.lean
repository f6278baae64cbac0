/- Layer 10: records held against each other: Same, All. -/
import Derived.Test.YtegmeodmjaijnaaOpenRc
import Derived.Test.YtegmeodmjaijnaaSame
import Derived.Test.YtegmeodmjaijnaaHeld
namespace Go.Proofs.Ytegmeodmjaijnaa
open Go.RowKit
set_option linter.unusedVariables false
attribute [local go_sem] Later.cell Later.frozen setCell_twice
namespace Nr
def eqv (a b : Nr) : Bool := decide (a.what = b.what ∧ a.tx = b.tx ∧ a.who = b.who ∧ a.yes = b.yes ∧ a.text = b.text)
theorem eqv_iff (a b : Nr) : eqv a b = true ↔ a = b := by
  obtain ⟨a1, a2, a3, a4, a5⟩ := a
  obtain ⟨b1, b2, b3, b4, b5⟩ := b
  simp [eqv]
def eqs : List Nr → List Nr → Bool
  | [], [] => true
  | x :: a, y :: b => eqv x y && eqs a b
  | _, _ => false
theorem eqs_iff : ∀ (a b : List Nr), eqs a b = true ↔ a = b
  | [], [] => by simp [eqs]
  | [], y :: b => by simp [eqs]
  | x :: a, [] => by simp [eqs]
  | x :: a, y :: b => by simp [eqs, eqs_iff a b, eqv_iff]
theorem eqs_false {a b : List Nr} (h : a ≠ b) : eqs a b = false := by
  cases he : eqs a b
  · rfl
  · exact absurd ((eqs_iff a b).1 he) h
end Nr
set_option maxRecDepth 100000 in
set_option maxHeartbeats 1000000 in
theorem rsame_go (w1 t1 h1 : Nat) (y1 : Bool) (A1 : Option Addr) (l1 : List Nat) (c1 n1 : Nat) (w2 t2 h2 : Nat) (y2 : Bool) (A2 : Option Addr) (l2 : List Nat) (c2 n2 : Nat) (w : World) (hn1 : l1.length = n1) (hn2 : l2.length = n2) (s1 : Sq byw w w.heap.size A1 l1) (s2 : Sq byw w w.heap.size A2 l2) (u1 : ∀ x ∈ l1, x < 256) (u2 : ∀ x ∈ l2, x < 256) (r : Bool) (hr : decide (w1 = w2 ∧ t1 = t2 ∧ h1 = h2 ∧ y1 = y2 ∧ l1 = l2) = r) :
    Calls Try.prog 20 #[.agg (rcV w1 t1 h1 y1 A1 n1 c1).toArray, .agg (rcV w2 t2 h2 y2 A2 n2 c2).toArray] w fun e w' => e = .returned (.bool r) ∧ Below w.heap.size w w' := by
  have b2 : Below w.heap.size w ((w.alloc (.cells (rcV w1 t1 h1 y1 A1 n1 c1).toArray 31)).alloc (.cells (rcV w2 t2 h2 y2 A2 n2 c2).toArray 31)) := bel_alloc (bel_alloc (Below.refl _ _) _) _
  have ks := Lib.hid (fun q hq => same_by A1 A2 l1 l2 c1 c2 n1 n2 q _ hn1 hn2 ((s1.below b2).more b2.size) ((s2.below b2).more b2.size) u1 u2 hq)
  have HR := Lib.hid hr
  clear hn1 hn2 s1 s2 u1 u2 hr b2
  by_cases e1 : w1 = w2
  · subst e1
    by_cases e2 : t1 = t2
    · subst e2
      by_cases e3 : h1 = h2
      · subst e3
        by_cases e4 : y1 = y2
        · subst e4
          have ks2 := ks.out r (by rw [← HR.out]; simp)
          go_enter Try.func20, Try.ntmps20
          go_wp2_with fail
          refine ks2.mono ?_
          rintro e_ w_ ⟨rfl, rfl⟩
          go_wp2
          go_ret
          exact ⟨rfl, (by repeat (first | with_reducible exact Below.refl _ _ | with_reducible refine bel_later _ ?_ | with_reducible refine bel_alloc ?_ _ | refine bel_set ?_ (by first | omega | (simp; done) | (simp; omega)) _ | with_reducible refine Below.drew ?_ | with_reducible refine bel_drewN ?_ _ | with_reducible assumption | assumption))⟩
        · obtain rfl : r = false := by rw [← HR.out]; simp [e4]
          have g : (y1 == y2) = false := by simpa using e4
          clear e4
          go_enter Try.func20, Try.ntmps20
          go_wp2
          go_ret
          exact ⟨rfl, (by repeat (first | with_reducible exact Below.refl _ _ | with_reducible refine bel_later _ ?_ | with_reducible refine bel_alloc ?_ _ | refine bel_set ?_ (by first | omega | (simp; done) | (simp; omega)) _ | with_reducible refine Below.drew ?_ | with_reducible refine bel_drewN ?_ _ | with_reducible assumption | assumption))⟩
      · obtain rfl : r = false := by rw [← HR.out]; simp [e3]
        have g : ((h1 : Int) == (h2 : Int)) = false := by simp; omega
        clear e3
        go_enter Try.func20, Try.ntmps20
        go_wp2
        go_ret
        exact ⟨rfl, (by repeat (first | with_reducible exact Below.refl _ _ | with_reducible refine bel_later _ ?_ | with_reducible refine bel_alloc ?_ _ | refine bel_set ?_ (by first | omega | (simp; done) | (simp; omega)) _ | with_reducible refine Below.drew ?_ | with_reducible refine bel_drewN ?_ _ | with_reducible assumption | assumption))⟩
    · obtain rfl : r = false := by rw [← HR.out]; simp [e2]
      have g : ((t1 : Int) == (t2 : Int)) = false := by simp; omega
      clear e2
      go_enter Try.func20, Try.ntmps20
      go_wp2
      go_ret
      exact ⟨rfl, (by repeat (first | with_reducible exact Below.refl _ _ | with_reducible refine bel_later _ ?_ | with_reducible refine bel_alloc ?_ _ | refine bel_set ?_ (by first | omega | (simp; done) | (simp; omega)) _ | with_reducible refine Below.drew ?_ | with_reducible refine bel_drewN ?_ _ | with_reducible assumption | assumption))⟩
  · obtain rfl : r = false := by rw [← HR.out]; simp [e1]
    have g : ((w1 : Int) == (w2 : Int)) = false := by simp; omega
    clear e1
    go_enter Try.func20, Try.ntmps20
    go_wp2
    go_ret
    exact ⟨rfl, (by repeat (first | with_reducible exact Below.refl _ _ | with_reducible refine bel_later _ ?_ | with_reducible refine bel_alloc ?_ _ | refine bel_set ?_ (by first | omega | (simp; done) | (simp; omega)) _ | with_reducible refine Below.drew ?_ | with_reducible refine bel_drewN ?_ _ | with_reducible assumption | assumption))⟩
theorem rsame_any (x y : Rc) (w : World) (hx : RcOk w w.heap.size x) (hy : RcOk w w.heap.size y) :
    Calls Try.prog 20 #[.agg (recK.f x).toArray, .agg (recK.f y).toArray] w fun e w' => e = .returned (.bool (Nr.eqv x.p y.p)) ∧ Below w.heap.size w w' :=
  rsame_go _ _ _ _ _ _ _ _ _ _ _ _ _ _ _ _ w rfl rfl hx.sq hy.sq hx.fit.u hy.fit.u _ rfl
theorem Rcs.range {w : World} {B b o k : Nat} {x : Rc} {l : List Rc} (h : Rcs w B (some ⟨b, o, none⟩) l) (hk : l[k]? = some x) : w.rangeAt b (o + k * 5) (recK.f x) := by
  intro j v hv
  obtain ⟨b', o', hA, hb, hc⟩ := h.rc (Nat.lt_of_le_of_lt (Nat.zero_le _) (List.getElem?_eq_some_iff.1 hk).1)
  obtain ⟨rfl, rfl⟩ : b = b' ∧ o = o' := by simpa using hA
  have := hc k x hk j v hv
  rwa [← Nat.add_assoc] at this
theorem size_recs : (Try.prog.info? 31).map (·.size) = some 5 := by kernel_rfl
theorem range_below {w w' : World} {B b o : Nat} {cs : List Value} (h : w.rangeAt b o cs) (k : Below B w w') (hb : b < B) : w'.rangeAt b o cs := fun j v hv => (k.cell (p := ⟨b, o + j, none⟩) hb).trans (h j v hv)
set_option maxRecDepth 100000 in
set_option maxHeartbeats 1000000 in
theorem all_any (A B : Option Addr) (la lb : List Rc) (ca cb na nb : Nat) (w : World) (hna : la.length = na) (hnb : lb.length = nb) (ha : Rcs w w.heap.size A la) (hb : Rcs w w.heap.size B lb) (hn63 : na ≤ 100000) :
    Calls Try.prog 26 #[.slice A na ca, .slice B nb cb] w fun e w' => e = .returned (.bool (Nr.eqs (la.map Rc.p) (lb.map Rc.p))) ∧ Below w.heap.size w w' := by
  have HA := Lib.hid ha
  have HB := Lib.hid hb
  have HNA := Lib.hid hna
  have HNB := Lib.hid hnb
  obtain ⟨r, hr⟩ : ∃ r, Nr.eqs (la.map Rc.p) (lb.map Rc.p) = r := ⟨_, rfl⟩
  rw [hr]
  have HR := Lib.hid hr
  by_cases hne : na = nb
  · subst hne
    clear ha hb hna hnb hr
    go_enter Try.func26, Try.ntmps26
    go_wp2
    go_loopw [13] (fun i wr => ∃ k : Nat, k ≤ na ∧ i = .int .i64 (k : Int) ∧ Hid ((la.take k).map Rc.p = (lb.take k).map Rc.p) ∧ Below w.heap.size w wr) (fun i _ => na - (intOf i).toNat)
    case atStart => exact ⟨0, by omega, rfl, Lib.hid rfl, Below.refl _ _⟩
    case round =>
      rename World => wr
      obtain ⟨k, hk, rfl, heq, hbe⟩ := hrel
      by_cases hlt : k < na
      · obtain ⟨g, o, x, rfl, hg, hx, hxo, _⟩ := (HA.out.to hbe).at_ (k := k) (by rw [HNA.out]; exact hlt)
        obtain ⟨g2, o2, y, rfl, hg2, hy, hyo, _⟩ := (HB.out.to hbe).at_ (k := k) (by rw [HNB.out]; exact hlt)
        have r1 := (HA.out.to hbe).range hx
        have r2 := (HB.out.to hbe).range hy
        have R1 := Lib.hid r1
        have R2 := Lib.hid r2
        have BE := Lib.hid hbe
        have HX := Lib.hid hx
        have HY := Lib.hid hy
        have ks := Lib.hid (rsame_any x y wr.drew ⟨hxo.sq, hxo.fit, hxo.nl⟩ ⟨hyo.sq, hyo.fit, hyo.nl⟩)
        have hltI : (k : Int) < (na : Int) := by omega
        have h0I : (0 : Int) ≤ (k : Int) := by omega
        clear r1 r2 hx hy hxo hyo hbe
        go_wp2_with fail
        refine wp_region_held_drew (S := (fun w' => w'.rangeAt g (o + k * 5) (rcV x.p.what x.p.tx x.p.who x.p.yes x.A x.p.text.length x.c) ∧ w'.rangeAt g2 (o2 + k * 5) (rcV y.p.what y.p.tx y.p.who y.p.yes y.A y.p.text.length y.c))) (by kernel_rfl) ?_ (fun hHeld => ?_)
        · exact ⟨R1.out, R2.out⟩
        refine takeD (i := 0) (oi := _) (v := ?vv1) (d := some 16) rfl (by kernel_rfl) (by kernel_rfl) (by kernel_rfl) (by kernel_rfl) (fun _ _ _ h => h) (Or.inl ⟨by kernel_rfl, ?_⟩) (by assumption) ?_
        rotate_left 1
        · intro W_ hSw; (try dsimp only at hSw); go_simp; (first | done | with_reducible rfl)
        try simp only [Act.put, List.setIfInBounds_toArray, List.set_cons_zero, List.set_cons_succ]
        refine takeD (i := 1) (oi := _) (v := ?vv2) (d := some 17) rfl (by kernel_rfl) (by kernel_rfl) (by kernel_rfl) (by kernel_rfl) (fun _ _ _ h => h) (Or.inl ⟨by kernel_rfl, ?_⟩) (by assumption) ?_
        rotate_left 1
        · intro W_ hSw; (try dsimp only at hSw); go_simp; (first | done | with_reducible rfl)
        try simp only [Act.put, List.setIfInBounds_toArray, List.set_cons_zero, List.set_cons_succ]
        refine takeD (i := 2) (oi := _) (v := ?vv3) (d := some 18) rfl (by kernel_rfl) (by kernel_rfl) (by kernel_rfl) (by kernel_rfl) (fun _ _ _ h => h) (Or.inl ⟨by kernel_rfl, ?_⟩) (by assumption) ?_
        rotate_left 1
        · intro W_ hSw; (try dsimp only at hSw); go_simp; (first | done | with_reducible rfl)
        try simp only [Act.put, List.setIfInBounds_toArray, List.set_cons_zero, List.set_cons_succ]
        refine takeD (i := 4) (oi := _) (v := ?vv4) (d := some 20) rfl (by kernel_rfl) (by kernel_rfl) (by kernel_rfl) (by kernel_rfl) (fun _ _ _ h => h) (Or.inl ⟨by kernel_rfl, ?_⟩) (by assumption) ?_
        rotate_left 1
        · intro W_ hSw; (try dsimp only at hSw); go_simp; (first | done | with_reducible rfl)
        try simp only [Act.put, List.setIfInBounds_toArray, List.set_cons_zero, List.set_cons_succ]
        refine takeD (i := 5) (oi := _) (v := ?vv5) (d := some 21) rfl (by kernel_rfl) (by kernel_rfl) (by kernel_rfl) (by kernel_rfl) (fun _ _ _ h => h) (Or.inl ⟨by kernel_rfl, ?_⟩) (by assumption) ?_
        rotate_left 1
        · intro W_ hSw; (try dsimp only at hSw); go_simp; (first | done | with_reducible rfl)
        try simp only [Act.put, List.setIfInBounds_toArray, List.set_cons_zero, List.set_cons_succ]
        refine takeD (i := 6) (oi := _) (v := ?vv6) (d := some 22) rfl (by kernel_rfl) (by kernel_rfl) (by kernel_rfl) (by kernel_rfl) (fun _ _ _ h => h) (Or.inl ⟨by kernel_rfl, ?_⟩) (by assumption) ?_
        rotate_left 1
        · intro W_ hSw; (try dsimp only at hSw); go_simp; (first | done | with_reducible rfl)
        try simp only [Act.put, List.setIfInBounds_toArray, List.set_cons_zero, List.set_cons_succ]
        refine takeD (i := 3) (oi := _) (v := _) (d := some 19) rfl (by kernel_rfl) (by kernel_rfl) (by kernel_rfl) (by kernel_rfl) (fun _ _ _ h => h) (yieldsIf_load_mid (by kernel_rfl) 31 (.tmp 18) (by kernel_rfl) g (o + k * 5) (by kernel_rfl) (rcV x.p.what x.p.tx x.p.who x.p.yes x.A x.p.text.length x.c) _ (fun W h => h.1) Try.underlying31 rfl size_recs) (by assumption) ?_
        try simp only [Act.put, List.setIfInBounds_toArray, List.set_cons_zero, List.set_cons_succ]
        refine takeD (i := 7) (oi := _) (v := _) (d := some 23) rfl (by kernel_rfl) (by kernel_rfl) (by kernel_rfl) (by kernel_rfl) (fun _ _ _ h => h) (yieldsIf_load_mid (by kernel_rfl) 31 (.tmp 22) (by kernel_rfl) g2 (o2 + k * 5) (by kernel_rfl) (rcV y.p.what y.p.tx y.p.who y.p.yes y.A y.p.text.length y.c) _ (fun W h => h.2) Try.underlying31 rfl size_recs) (by assumption) ?_
        try simp only [Act.put, List.setIfInBounds_toArray, List.set_cons_zero, List.set_cons_succ]
        refine wpAnyH_ready (rs := [8]) (by kernel_rfl) (by simp) ?_
        refine AllReadyH.cons (o := _) rfl (fun K hK => ?_) AllReadyH.nil
        go_simp
        (go_at_call 20; (with_reducible refine (ks.out).mono ?_); rintro e w3 ⟨rfl, b3⟩; have B3 : Hid (Below wr.heap.size wr w3) := Lib.hid ((Below.refl wr.heap.size wr).drew.trans b3); clear b3)
        go_wp2_with fail
        refine hK.out _ _ ?_ (fun hHeld => ?_)
        · exact ⟨range_below R1.out B3.out hg, range_below R2.out B3.out hg2⟩
        clear hK K
        try simp only [Act.put, List.setIfInBounds_toArray, List.set_cons_zero, List.set_cons_succ]
        refine takeD (i := 9) (oi := _) (v := ?vv7) (d := some 25) rfl (by kernel_rfl) (by kernel_rfl) (by kernel_rfl) (by kernel_rfl) (fun _ _ _ h => h) (Or.inl ⟨by kernel_rfl, ?_⟩) (by assumption) ?_
        rotate_left 1
        · intro W_ hSw; (try dsimp only at hSw); go_simp; (first | done | with_reducible rfl)
        try simp only [Act.put, List.setIfInBounds_toArray, List.set_cons_zero, List.set_cons_succ]
        refine wpAnyH_done (by kernel_rfl) ?_ _
        have BE3 := Lib.hid (BE.out.trans (B3.out.mono BE.out.size))
        have HS1 : Hid (((la.take (k + 1)).map Rc.p) = (la.take k).map Rc.p ++ [x.p]) := Lib.hid (by rw [List.take_add_one, HX.out]; simp)
        have HS2 : Hid (((lb.take (k + 1)).map Rc.p) = (lb.take k).map Rc.p ++ [y.p]) := Lib.hid (by rw [List.take_add_one, HY.out]; simp)
        cases he : Nr.eqv x.p y.p
        · obtain rfl : r = false := by
            rw [← HR.out]
            refine Nr.eqs_false (fun h => ?_)
            have h1 : (la.map Rc.p)[k]? = (lb.map Rc.p)[k]? := by rw [h]
            rw [List.getElem?_map, List.getElem?_map, HX.out, HY.out] at h1
            have h2 : x.p = y.p := by simpa using h1
            rw [(Nr.eqv_iff _ _).2 h2] at he
            cases he
          clear he
          go_wp2
          go_ret
          exact ⟨rfl, BE3.out⟩
        · have hxy := Lib.hid ((Nr.eqv_iff _ _).1 he)
          clear he
          go_wp2
          go_roundw
          case rel => exact ⟨k + 1, by omega, by go_num, Lib.hid (by rw [HS1.out, HS2.out, heq.out, hxy.out]), BE3.out⟩
          case measure => simp [intOf]; omega
      · obtain rfl : k = na := by omega
        obtain rfl : r = true := by
          rw [← HR.out]
          refine (Nr.eqs_iff _ _).2 ?_
          have := heq.out
          rwa [List.take_of_length_le (by rw [HNA.out]; exact Nat.le_refl _), List.take_of_length_le (by rw [HNB.out]; exact Nat.le_refl _)] at this
        have BE := Lib.hid hbe
        go_wp2
        go_ret
        exact ⟨rfl, BE.out⟩
  · obtain rfl : r = false := by
      rw [← hr]
      exact Nr.eqs_false (fun h => hne (by have := congrArg List.length h; simpa [hna, hnb] using this))
    have g : ((na : Int) != (nb : Int)) = true := by simp; omega
    clear ha hb hna hnb hr hne
    go_enter Try.func26, Try.ntmps26
    go_wp2
    go_ret
    exact ⟨rfl, Below.refl _ _⟩
end Go.Proofs.Ytegmeodmjaijnaa
