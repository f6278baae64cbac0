/- Layer 23: the document's Make; Same, the program's and the document's. -/
import Derived.Test.YtegmeodmjaijnaaLgRef
import Derived.Test.YtegmeodmjaijnaaStr
namespace Go.Proofs.Ytegmeodmjaijnaa
open Go.RowKit
set_option linter.unusedVariables false
set_option linter.unusedSimpArgs false
attribute [local go_sem] Later.cell Later.frozen setCell_twice
theorem Jbs.len_le {l : List Nr} {J : List Jp} {k : Nat} (h : Jp.make (l.take k) = some J) (hk : k ≤ 90000) : J.length ≤ 90000 := by
  have h2 := Jp.makeFrom_length _ h
  simp only [List.length_take, List.length_nil] at h2
  omega
set_option maxRecDepth 100000 in
set_option maxHeartbeats 1000000 in
theorem rjmake_any (A : Option Addr) (n c : Nat) (l : List Rc) (w : World) (hR : Rcs w w.heap.size A l) (hln : l.length = n) (hn : n ≤ 80000) :
    Calls Try.prog 21 #[.slice A n c] w (RgP (Jp.make (l.map Rc.p)) w) := by
  have HR := Lib.hid hR
  have HLN := Lib.hid hln
  clear hR hln
  go_enter Try.func21, Try.ntmps21
  go_wp2
  go_loopw [4, 5] (fun r i wr => ∃ (k : Nat) (A' : Option Addr) (n' c' : Nat) (jl : List Jb), k ≤ n ∧ i = .int .i64 k ∧ r = .slice A' n' c' ∧ Hid (Jbs wr wr.heap.size A' jl ∧ jl.length = n' ∧ Jp.make ((l.map Rc.p).take k) = some (jps jl) ∧ Below w.heap.size w wr)) (fun _ i _ => n - (intOf i).toNat)
  case atStart => exact ⟨0, none, 0, 0, [], by omega, rfl, rfl, Lib.hid ⟨Jbs.nil, rfl, rfl, Below.refl _ _⟩⟩
  case round =>
    rename World => wr
    obtain ⟨k, A', n', c', jl, hk, rfl, rfl, hh⟩ := hrel
    have JA := Lib.hid hh.out.1
    have HJL := Lib.hid hh.out.2.1
    have MK := Lib.hid hh.out.2.2.1
    have BW := Lib.hid hh.out.2.2.2
    clear hh
    by_cases hlt : k < n
    · obtain ⟨g1, o1, x, rfl, hg1, hx, hxo, hx0, hx1, hx2, hx3, hx4⟩ := (HR.out.to BW.out).at_ (k := k) (by rw [HLN.out]; exact hlt)
      have hltI : (k : Int) < (n : Int) := by omega
      have h0I : (0 : Int) ≤ (k : Int) := by omega
      have HX : Hid ((l.map Rc.p)[k]? = some x.p) := Lib.hid (by rw [List.getElem?_map, hx]; rfl)
      have HXO := Lib.hid hxo
      have hnn : n' ≤ 90000 := by
        have h1 := HJL.out
        have h2 := Jbs.len_le MK.out (by omega)
        rw [jps, List.length_map] at h2
        omega
      obtain ⟨⟨what, tx, who, yes, text⟩, XA, xc⟩ := x
      dsimp only at hx0 hx1 hx2 hx3 hx4 HX
      obtain ⟨m, hm⟩ : ∃ m, text.length = m := ⟨_, rfl⟩
      have HM := Lib.hid hm
      rw [hm] at hx4
      clear hx hxo hm
      go_wp2_with fail
      (with_reducible refine (rjadd_any A' n' c' jl what tx who yes text XA m xc wr JA.out HJL.out HM.out HXO.out (Jp.make_sorted MK.out) hnn).mono ?_)
      intro e w4 h4
      obtain ⟨A4, n4, c4, b, rfl, b4, H4⟩ := h4
      have B4 : Hid (Below w.heap.size w w4) := Lib.hid (BW.out.trans (b4.mono BW.out.size))
      clear b4 hx0 hx1 hx2 hx3 hx4
      rcases H4.out with ⟨hno, rfl, rfl, rfl, rfl⟩ | ⟨rfl, jl4, hyes, hjl4, hJ4⟩
      · have HNO : Hid (Jp.make (l.map Rc.p) = none) := Lib.hid (Jp.make_none HX.out MK.out hno)
        clear hno
        go_wp2
        go_ret2
        exact RgP.no HNO.out B4.out
      · have HYES : Hid (Jp.make ((l.map Rc.p).take (k + 1)) = some (jps jl4)) := Lib.hid (by rw [Jp.make_snoc HX.out MK.out]; exact hyes)
        have HJ4 := Lib.hid hJ4
        have HL4 := Lib.hid hjl4
        clear hyes hJ4 hjl4
        go_wp2
        go_roundw
        case rel => exact ⟨k + 1, A4, n4, c4, jl4, by omega, by go_num, rfl, Lib.hid ⟨HJ4.out, HL4.out, HYES.out, B4.out⟩⟩
        case measure => simp [intOf]; omega
    · obtain rfl : k = n := by omega
      have HYES : Hid (Jp.make (l.map Rc.p) = some (jps jl)) := Lib.hid (by have h := MK.out; rwa [List.take_of_length_le (by rw [List.length_map, HLN.out]; exact Nat.le_refl _)] at h)
      go_wp2
      go_ret2
      exact RgP.yes HYES.out BW.out HJL.out JA.out
/-- jobs held against each other -/
def Jp.eqv (a b : Jp) : Bool := decide (a.tx = b.tx ∧ a.who = b.who ∧ a.st = b.st ∧ a.text = b.text)
theorem Jp.eqv_iff (a b : Jp) : Jp.eqv a b = true ↔ a = b := by
  obtain ⟨a1, a2, a3, a4⟩ := a
  obtain ⟨b1, b2, b3, b4⟩ := b
  simp [Jp.eqv]
  exact fun _ _ => And.comm
def Jp.eqs : List Jp → List Jp → Bool
  | [], [] => true
  | x :: a, y :: b => Jp.eqv x y && Jp.eqs a b
  | _, _ => false
theorem Jp.eqs_iff : ∀ (a b : List Jp), Jp.eqs a b = true ↔ a = b
  | [], [] => by simp [Jp.eqs]
  | [], y :: b => by simp [Jp.eqs]
  | x :: a, [] => by simp [Jp.eqs]
  | x :: a, y :: b => by simp [Jp.eqs, Jp.eqs_iff a b, Jp.eqv_iff]
theorem Jp.eqs_false {a b : List Jp} (h : a ≠ b) : Jp.eqs a b = false := by
  cases he : Jp.eqs a b
  · rfl
  · exact absurd ((Jp.eqs_iff a b).1 he) h
theorem Jp.eqs_self (a : List Jp) : Jp.eqs a a = true := (Jp.eqs_iff a a).2 rfl
theorem bequal_any (A B : Option Addr) (la lb : List Nat) (ca cb n m : Nat) (r : Bool) (w : World) (hn : la.length = n) (hm : lb.length = m) (ha : Sq byw w w.heap.size A la) (hb : Sq byw w w.heap.size B lb) (ba : ∀ x ∈ la, x < 256) (bb : ∀ x ∈ lb, x < 256) (hr : decide (la = lb) = r) :
    Calls Try.prog 34 #[.slice A n ca, .slice B m cb] w fun e w' => e = .returned (.bool r) ∧ w = w' := by
  have sA := conv_nums (P := Try.prog) (sq_nums ha) 29 9 5 ca n Try.underlying29 Try.underlying5 Try.underlying9 hn
  have sB := conv_nums (P := Try.prog) (sq_nums hb) 29 9 5 cb m Try.underlying29 Try.underlying5 Try.underlying9 hm
  subst hr
  clear hn hm
  by_cases h : la = lb
  · subst h
    have hd : decide (la = la) = true := by simp
    rw [hd]
    clear hd
    go_enter Try.func34, Try.ntmps34
    go_wp2
    go_ret
    exact ⟨rfl, rfl⟩
  · have hd : decide (la = lb) = false := by simpa using h
    have hne := str_ne ba bb h
    rw [hd]
    clear hd h
    go_enter Try.func34, Try.ntmps34
    go_wp2
    go_ret
    exact ⟨rfl, rfl⟩
set_option maxRecDepth 100000 in
set_option maxHeartbeats 1000000 in
theorem jsame1_any (x y : Jb) (m1 m2 : Nat) (w : World) (hx : JbOk w w.heap.size x) (hy : JbOk w w.heap.size y) (h1 : x.p.text.length = m1) (h2 : y.p.text.length = m2) (r : Bool) (hr : Jp.eqv x.p y.p = r) :
    Calls Try.prog 33 #[.agg (jbV x.p.tx x.p.who x.A m1 x.c x.p.st).toArray, .agg (jbV y.p.tx y.p.who y.A m2 y.c y.p.st).toArray] w fun e w' => e = .returned (.bool r) ∧ Below w.heap.size w w' := by
  have b2 : Below w.heap.size w ((w.alloc (.cells (jbV x.p.tx x.p.who x.A m1 x.c x.p.st).toArray 38)).alloc (.cells (jbV y.p.tx y.p.who y.A m2 y.c y.p.st).toArray 38)) := bel_alloc (bel_alloc (Below.refl _ _) _) _
  obtain ⟨⟨t1, o1, l1, s1⟩, A1, c1⟩ := x
  obtain ⟨⟨t2, o2, l2, s2⟩, A2, c2⟩ := y
  have ks := Lib.hid (fun q hq => bequal_any A1 A2 l1 l2 c1 c2 m1 m2 q _ h1 h2 ((hx.sq.below b2).more b2.size) ((hy.sq.below b2).more b2.size) hx.fit.text hy.fit.text hq)
  have HR : Hid (decide (t1 = t2 ∧ o1 = o2 ∧ s1 = s2 ∧ l1 = l2) = r) := Lib.hid hr
  dsimp only at ks ⊢
  clear h1 h2 hx hy hr b2
  by_cases e1 : t1 = t2
  · subst e1
    by_cases e2 : o1 = o2
    · subst e2
      by_cases e3 : s1 = s2
      · subst e3
        have ks2 := ks.out r (by rw [← HR.out]; simp)
        go_enter Try.func33, Try.ntmps33
        go_wp2_with fail
        refine ks2.mono ?_
        rintro e_ w_ ⟨rfl, rfl⟩
        go_wp2
        go_ret
        exact ⟨rfl, (by repeat (first | with_reducible exact Below.refl _ _ | with_reducible refine bel_later _ ?_ | with_reducible refine bel_alloc ?_ _ | refine bel_set ?_ (by first | omega | (simp; done) | (simp; omega)) _ | with_reducible refine Below.drew ?_ | with_reducible refine bel_drewN ?_ _ | with_reducible assumption | assumption))⟩
      · obtain rfl : r = false := by rw [← HR.out]; simp [e3]
        have g : ((s1 : Int) == (s2 : Int)) = false := by simp; omega
        clear e3
        go_enter Try.func33, Try.ntmps33
        go_wp2
        go_ret
        exact ⟨rfl, (by repeat (first | with_reducible exact Below.refl _ _ | with_reducible refine bel_later _ ?_ | with_reducible refine bel_alloc ?_ _ | refine bel_set ?_ (by first | omega | (simp; done) | (simp; omega)) _ | with_reducible refine Below.drew ?_ | with_reducible refine bel_drewN ?_ _ | with_reducible assumption | assumption))⟩
    · obtain rfl : r = false := by rw [← HR.out]; simp [e2]
      have g : ((o1 : Int) == (o2 : Int)) = false := by simp; omega
      clear e2
      go_enter Try.func33, Try.ntmps33
      go_wp2
      go_ret
      exact ⟨rfl, (by repeat (first | with_reducible exact Below.refl _ _ | with_reducible refine bel_later _ ?_ | with_reducible refine bel_alloc ?_ _ | refine bel_set ?_ (by first | omega | (simp; done) | (simp; omega)) _ | with_reducible refine Below.drew ?_ | with_reducible refine bel_drewN ?_ _ | with_reducible assumption | assumption))⟩
  · obtain rfl : r = false := by rw [← HR.out]; simp [e1]
    have g : ((t1 : Int) == (t2 : Int)) = false := by simp; omega
    clear e1
    go_enter Try.func33, Try.ntmps33
    go_wp2
    go_ret
    exact ⟨rfl, (by repeat (first | with_reducible exact Below.refl _ _ | with_reducible refine bel_later _ ?_ | with_reducible refine bel_alloc ?_ _ | refine bel_set ?_ (by first | omega | (simp; done) | (simp; omega)) _ | with_reducible refine Below.drew ?_ | with_reducible refine bel_drewN ?_ _ | with_reducible assumption | assumption))⟩
theorem size_jobw : (Try.prog.info? 38).map (·.size) = some 4 := by kernel_rfl
set_option maxRecDepth 100000 in
set_option maxHeartbeats 1000000 in
theorem jeqf_any (A B : Option Addr) (la lb : List Jb) (ca cb na nb : Nat) (w : World) (hna : la.length = na) (hnb : lb.length = nb) (ha : Jbs w w.heap.size A la) (hb : Jbs w w.heap.size B lb) (hn63 : na ≤ 100000) :
    Calls Try.prog 32 #[.slice A na ca, .slice B nb cb, .func (.func 33) #[] #[]] w fun e w' => e = .returned (.bool (Jp.eqs (jps la) (jps lb))) ∧ Below w.heap.size w w' := by
  have HA := Lib.hid ha
  have HB := Lib.hid hb
  have HNA := Lib.hid hna
  have HNB := Lib.hid hnb
  obtain ⟨r, hr⟩ : ∃ r, Jp.eqs (jps la) (jps lb) = r := ⟨_, rfl⟩
  rw [hr]
  have HR := Lib.hid hr
  by_cases hne : na = nb
  · subst hne
    clear ha hb hna hnb hr
    go_enter Try.func32, Try.ntmps32
    go_wp2
    go_loopw [17] (fun i wr => ∃ k : Nat, k ≤ na ∧ i = .int .i64 (k : Int) ∧ Hid ((jps la).take k = (jps lb).take k) ∧ Below w.heap.size w wr) (fun i _ => na - (intOf i).toNat)
    case atStart => exact ⟨0, by omega, rfl, Lib.hid rfl, Below.refl _ _⟩
    case round =>
      rename World => wr
      obtain ⟨k, hk, rfl, heq, hbe⟩ := hrel
      by_cases hlt : k < na
      · obtain ⟨g, o, x, rfl, hg, hx, hxo, hx0, hx1, hx2, hx3⟩ := (HA.out.to hbe).at_ (k := k) (by rw [HNA.out]; exact hlt)
        obtain ⟨g2, o2, y, rfl, hg2, hy, hyo, hy0, hy1, hy2, hy3⟩ := (HB.out.to hbe).at_ (k := k) (by rw [HNB.out]; exact hlt)
        have BE := Lib.hid hbe
        have HX : Hid ((jps la)[k]? = some x.p) := Lib.hid (by rw [jps, List.getElem?_map, hx]; rfl)
        have HY : Hid ((jps lb)[k]? = some y.p) := Lib.hid (by rw [jps, List.getElem?_map, hy]; rfl)
        have bW : Below wr.heap.size wr ((wr.alloc (.cells (jbV x.p.tx x.p.who x.A x.p.text.length x.c x.p.st).toArray 38)).alloc (.cells (jbV y.p.tx y.p.who y.A y.p.text.length y.c y.p.st).toArray 38)) := bel_alloc (bel_alloc (Below.refl _ _) _) _
        obtain ⟨q, hq⟩ : ∃ q, Jp.eqv x.p y.p = q := ⟨_, rfl⟩
        have ks := Lib.hid (jsame1_any x y _ _ _ ((hxo.below bW).more bW.size) ((hyo.below bW).more bW.size) rfl rfl q hq)
        have HQ := Lib.hid hq
        have BW := Lib.hid bW
        have hltI : (k : Int) < (na : Int) := by omega
        have h0I : (0 : Int) ≤ (k : Int) := by omega
        have hgr : g < wr.heap.size := hg
        have hgr2 : g2 < wr.heap.size := hg2
        have hgr3 : g2 < wr.heap.size + 1 := by omega
        clear hx hy hxo hyo hbe hq bW
        go_wp2_with fail
        (with_reducible refine (ks.out).mono ?_)
        rintro e w3 ⟨rfl, b3⟩
        have BE3 : Hid (Below w.heap.size w w3) := Lib.hid (BE.out.trans ((BW.out.trans (b3.mono BW.out.size)).mono BE.out.size))
        clear b3 BW
        have HS1 : Hid ((jps la).take (k + 1) = (jps la).take k ++ [x.p]) := Lib.hid (by rw [List.take_add_one, HX.out]; rfl)
        have HS2 : Hid ((jps lb).take (k + 1) = (jps lb).take k ++ [y.p]) := Lib.hid (by rw [List.take_add_one, HY.out]; rfl)
        cases q
        · obtain rfl : r = false := by
            rw [← HR.out]
            refine Jp.eqs_false (fun h => ?_)
            have h2 : x.p = y.p := Option.some.inj (HX.out.symm.trans ((congrArg (fun z : List Jp => z[k]?) h).trans HY.out))
            have h3 := HQ.out
            rw [(Jp.eqv_iff _ _).2 h2] at h3
            cases h3
          go_wp2
          go_ret
          exact ⟨rfl, BE3.out⟩
        · have hxy := Lib.hid ((Jp.eqv_iff _ _).1 HQ.out)
          go_wp2
          go_roundw
          case rel => exact ⟨k + 1, by omega, by go_num, Lib.hid (by rw [HS1.out, HS2.out, heq.out, hxy.out]), BE3.out⟩
          case measure => simp [intOf]; omega
      · obtain rfl : k = na := by omega
        obtain rfl : r = true := by
          rw [← HR.out]
          refine (Jp.eqs_iff _ _).2 ?_
          have := heq.out
          rwa [List.take_of_length_le (by rw [jps, List.length_map, HNA.out]; exact Nat.le_refl _), List.take_of_length_le (by rw [jps, List.length_map, HNB.out]; exact Nat.le_refl _)] at this
        have BE := Lib.hid hbe
        go_wp2
        go_ret
        exact ⟨rfl, BE.out⟩
  · obtain rfl : r = false := by
      rw [← hr]
      exact Jp.eqs_false (fun h => hne (by have := congrArg List.length h; simpa [jps, hna, hnb] using this))
    have g : ((na : Int) != (nb : Int)) = true := by simp; omega
    clear ha hb hna hnb hr hne
    go_enter Try.func32, Try.ntmps32
    go_wp2
    go_ret
    exact ⟨rfl, Below.refl _ _⟩
theorem jsame_any (A B : Option Addr) (la lb : List Jb) (ca cb na nb : Nat) (w : World) (hna : la.length = na) (hnb : lb.length = nb) (ha : Jbs w w.heap.size A la) (hb : Jbs w w.heap.size B lb) (hn63 : na ≤ 100000) :
    Calls Try.prog 18 #[.slice A na ca, .slice B nb cb] w fun e w' => e = .returned (.bool (Jp.eqs (jps la) (jps lb))) ∧ Below w.heap.size w w' := by
  have k := Lib.hid (jeqf_any A B la lb ca cb na nb w hna hnb ha hb hn63)
  clear hna hnb ha hb
  go_enter Try.func18, Try.ntmps18
  go_wp2_with fail
  refine k.out.mono ?_
  rintro e w1 ⟨rfl, b1⟩
  have B1 := Lib.hid b1
  clear b1
  go_wp2
  go_ret
  exact ⟨rfl, B1.out⟩
set_option maxRecDepth 100000 in
set_option maxHeartbeats 2000000 in
theorem rjsame_any (A B : Option Addr) (la lb : List Jb) (ca cb na nb : Nat) (w : World) (hna : la.length = na) (hnb : lb.length = nb) (ha : Jbs w w.heap.size A la) (hb : Jbs w w.heap.size B lb) (hn63 : na ≤ 100000) :
    Calls Try.prog 23 #[.slice A na ca, .slice B nb cb] w fun e w' => e = .returned (.bool (Jp.eqs (jps la) (jps lb))) ∧ Below w.heap.size w w' := by
  have HA := Lib.hid ha
  have HB := Lib.hid hb
  have HNA := Lib.hid hna
  have HNB := Lib.hid hnb
  obtain ⟨r, hr⟩ : ∃ r, Jp.eqs (jps la) (jps lb) = r := ⟨_, rfl⟩
  rw [hr]
  have HR := Lib.hid hr
  by_cases hne : na = nb
  · subst hne
    clear ha hb hna hnb hr
    go_enter Try.func23, Try.ntmps23
    go_wp2
    go_loopw [5] (fun i wr => ∃ k : Nat, k ≤ na ∧ i = .int .i64 (k : Int) ∧ Hid ((jps la).take k = (jps lb).take k) ∧ Below w.heap.size w wr) (fun i _ => na - (intOf i).toNat)
    case atStart => exact ⟨0, by omega, rfl, Lib.hid rfl, Below.refl _ _⟩
    case round =>
      rename World => wr
      obtain ⟨k, hk, rfl, heq, hbe⟩ := hrel
      by_cases hlt : k < na
      · obtain ⟨g, o, x, rfl, hg, hx, hxo, hx0, hx1, hx2, hx3⟩ := (HA.out.to hbe).at_ (k := k) (by rw [HNA.out]; exact hlt)
        obtain ⟨g2, o2, y, rfl, hg2, hy, hyo, hy0, hy1, hy2, hy3⟩ := (HB.out.to hbe).at_ (k := k) (by rw [HNB.out]; exact hlt)
        have BE := Lib.hid hbe
        have HX : Hid ((jps la)[k]? = some x.p) := Lib.hid (by rw [jps, List.getElem?_map, hx]; rfl)
        have HY : Hid ((jps lb)[k]? = some y.p) := Lib.hid (by rw [jps, List.getElem?_map, hy]; rfl)
        have hltI : (k : Int) < (na : Int) := by omega
        have h0I : (0 : Int) ≤ (k : Int) := by omega
        have HXO := Lib.hid hxo
        have HYO := Lib.hid hyo
        have HS1 : Hid ((jps la).take (k + 1) = (jps la).take k ++ [x.p]) := Lib.hid (by rw [List.take_add_one, HX.out]; rfl)
        have HS2 : Hid ((jps lb).take (k + 1) = (jps lb).take k ++ [y.p]) := Lib.hid (by rw [List.take_add_one, HY.out]; rfl)
        obtain ⟨⟨t1, p1, l1, s1⟩, A1, c1⟩ := x
        obtain ⟨⟨t2, p2, l2, s2⟩, A2, c2⟩ := y
        dsimp only at hx0 hx1 hx2 hx3 hy0 hy1 hy2 hy3 HX HY HS1 HS2
        obtain ⟨m1, hm1⟩ : ∃ m1, l1.length = m1 := ⟨_, rfl⟩
        obtain ⟨m2, hm2⟩ : ∃ m2, l2.length = m2 := ⟨_, rfl⟩
        rw [hm1] at hx2
        rw [hm2] at hy2
        have hsA : ∀ q, (convert 29 9 (.slice A1 m1 c1)).run Try.prog (wr.drewN q) = .ok (.string (str l1)) (wr.drewN q) := fun q => conv_nums (P := Try.prog) (w := wr.drewN q) (sq_nums HXO.out.sq) 29 9 5 c1 m1 Try.underlying29 Try.underlying5 Try.underlying9 hm1
        have hsB : ∀ q, (convert 29 9 (.slice A2 m2 c2)).run Try.prog (wr.drewN q) = .ok (.string (str l2)) (wr.drewN q) := fun q => conv_nums (P := Try.prog) (w := wr.drewN q) (sq_nums HYO.out.sq) 29 9 5 c2 m2 Try.underlying29 Try.underlying5 Try.underlying9 hm2
        clear hx hy hxo hyo hbe hm1 hm2
        by_cases e1 : t1 = t2
        · subst e1
          by_cases e2 : p1 = p2
          · subst e2
            by_cases e3 : s1 = s2
            · subst e3
              by_cases e4 : l1 = l2
              · subst e4
                have gs := str_same l1
                go_wp2
                go_quiet (fail)
                go_wp2
                go_roundw
                case rel => exact ⟨k + 1, by omega, by go_num, Lib.hid (by rw [HS1.out, HS2.out, heq.out]), bel_drewN BE.out _⟩
                case measure => simp [intOf]; omega
              · have gs := str_ne HXO.out.fit.text HYO.out.fit.text e4
                have hne : ¬ (t1 = t1 ∧ p1 = p1 ∧ l1 = l2 ∧ s1 = s1) := fun h => e4 h.2.2.1
                clear e4
                obtain rfl : r = false := by
                  rw [← HR.out]
                  refine Jp.eqs_false (fun h => ?_)
                  have h2 := Option.some.inj (HX.out.symm.trans ((congrArg (fun z : List Jp => z[k]?) h).trans HY.out))
                  rw [Jp.mk.injEq] at h2
                  exact hne h2
                clear hne
                go_wp2
                go_quiet (fail)
                go_wp2
                go_ret
                exact ⟨rfl, bel_drewN BE.out _⟩
            · have g : ((s1 : Int) == (s2 : Int)) = false := by simp; omega
              have g' : ((s1 : Int) != (s2 : Int)) = true := by simp; omega
              have hne : ¬ (t1 = t1 ∧ p1 = p1 ∧ l1 = l2 ∧ s1 = s2) := fun h => e3 h.2.2.2
              clear e3
              obtain rfl : r = false := by
                rw [← HR.out]
                refine Jp.eqs_false (fun h => ?_)
                have h2 := Option.some.inj (HX.out.symm.trans ((congrArg (fun z : List Jp => z[k]?) h).trans HY.out))
                rw [Jp.mk.injEq] at h2
                exact hne h2
              clear hne
              go_wp2
              go_quiet (fail)
              go_wp2
              go_ret
              exact ⟨rfl, bel_drewN BE.out _⟩
          · have g : ((p1 : Int) == (p2 : Int)) = false := by simp; omega
            have g' : ((p1 : Int) != (p2 : Int)) = true := by simp; omega
            have hne : ¬ (t1 = t1 ∧ p1 = p2 ∧ l1 = l2 ∧ s1 = s2) := fun h => e2 h.2.1
            clear e2
            obtain rfl : r = false := by
              rw [← HR.out]
              refine Jp.eqs_false (fun h => ?_)
              have h2 := Option.some.inj (HX.out.symm.trans ((congrArg (fun z : List Jp => z[k]?) h).trans HY.out))
              rw [Jp.mk.injEq] at h2
              exact hne h2
            clear hne
            go_wp2
            go_quiet (fail)
            go_wp2
            go_ret
            exact ⟨rfl, bel_drewN BE.out _⟩
        · have g : ((t1 : Int) == (t2 : Int)) = false := by simp; omega
          have g' : ((t1 : Int) != (t2 : Int)) = true := by simp; omega
          have hne : ¬ (t1 = t2 ∧ p1 = p2 ∧ l1 = l2 ∧ s1 = s2) := fun h => e1 h.1
          clear e1
          obtain rfl : r = false := by
            rw [← HR.out]
            refine Jp.eqs_false (fun h => ?_)
            have h2 := Option.some.inj (HX.out.symm.trans ((congrArg (fun z : List Jp => z[k]?) h).trans HY.out))
            rw [Jp.mk.injEq] at h2
            exact hne h2
          clear hne
          go_wp2
          go_quiet (fail)
          go_wp2
          go_ret
          exact ⟨rfl, bel_drewN BE.out _⟩
      · obtain rfl : k = na := by omega
        obtain rfl : r = true := by
          rw [← HR.out]
          refine (Jp.eqs_iff _ _).2 ?_
          have := heq.out
          rwa [List.take_of_length_le (by rw [jps, List.length_map, HNA.out]; exact Nat.le_refl _), List.take_of_length_le (by rw [jps, List.length_map, HNB.out]; exact Nat.le_refl _)] at this
        have BE := Lib.hid hbe
        go_wp2
        go_ret
        exact ⟨rfl, BE.out⟩
  · obtain rfl : r = false := by
      rw [← hr]
      exact Jp.eqs_false (fun h => hne (by have := congrArg List.length h; simpa [jps, hna, hnb] using this))
    have g : ((na : Int) != (nb : Int)) = true := by simp; omega
    clear ha hb hna hnb hr hne
    go_enter Try.func23, Try.ntmps23
    go_wp2
    go_ret
    exact ⟨rfl, Below.refl _ _⟩
end Go.Proofs.Ytegmeodmjaijnaa
