/- Layer 11: Send. -/
import Derived.Test.YthigkmoilfdciaaBuAdd
namespace Go.Proofs.Ythigkmoilfdciaa
open Go.RowKit
set_option linter.unusedVariables false
set_option linter.unusedSimpArgs false
attribute [local go_sem] Later.cell Later.frozen setCell_twice
def sendB (b : Bu) (p : Par) (f : Fa) : Bu := if Bu.right b.rtu.length p = true then b.send p f else b
def sendE (b : Bu) (p : Par) : Int := if Bu.right b.rtu.length p = true then 0 else 2
/-- what Send leaves, and which blocks the bytes lie in -/
def SendB (w : World) (base gs gm rg rc : Nat) (b : Bu) (E : List En) (p : Par) (f : Fa) (e : Ending) (w' : World) : Prop :=
  ∃ E', e = .returned (.int .i64 (sendE b p)) ∧ BusAt w' base gs gm rg rc (sendB b p f) E' ∧ Fr (bfoot gs gm rg E) w w' ∧ (∀ x, x ∈ bfoot gs gm rg E' → x ∈ bfoot gs gm rg E ∨ w.heap.size ≤ x) ∧ Hid (∃ new, (byts E').Perm (byts E ++ new) ∧ new.Nodup ∧ ∀ x ∈ new, w.heap.size ≤ x)
/-- what Send leaves -/
def SendP (w : World) (base gs gm rg rc : Nat) (b : Bu) (E : List En) (p : Par) (f : Fa) (e : Ending) (w' : World) : Prop :=
  ∃ E', e = .returned (.int .i64 (sendE b p)) ∧ BusAt w' base gs gm rg rc (sendB b p f) E' ∧ Fr (bfoot gs gm rg E) w w' ∧ (∀ x, x ∈ bfoot gs gm rg E' → x ∈ bfoot gs gm rg E ∨ w.heap.size ≤ x)
theorem SendB.stay {w w' : World} {base gs gm rg rc : Nat} {b : Bu} {E : List En} {p : Par} {f : Fa} {r : Int} (hr : sendE b p = r) (hs : sendB b p f = b) (h : BusAt w base gs gm rg rc b E) (k : Below w.heap.size w w') : SendB w base gs gm rg rc b E p f (.returned (.int .i64 r)) w' :=
  ⟨E, by rw [hr], by rw [hs]; exact h.to k, Fr.of_below _ k, fun x hx => .inl hx, Lib.hid ⟨[], by simp, by simp, by simp⟩⟩
theorem Sq.fr {α : Type} {f : α → Value} {F : List Nat} {w w' : World} {B : Nat} {A : Option Addr} {l : List α} (h : Sq f w B A l) (k : Fr F w w') (hB : B ≤ w.heap.size) (hA : ∀ p, A = some p → p.block ∉ F) : Sq f w' B A l := fun hn => by
  obtain ⟨b, o, rfl, hb, hc⟩ := h hn
  exact ⟨b, o, rfl, hb, fun j x hx => (k.cell (p := ⟨b, o + j, none⟩) (by show b < _; omega) (hA ⟨b, o, none⟩ rfl)).trans (hc j x hx)⟩
theorem Fr.range {F : List Nat} {w w' : World} {b o : Nat} {cs : List Value} (h : Fr F w w') (hr : w.rangeAt b o cs) (hb : b < w.heap.size) (hF : b ∉ F) : w'.rangeAt b o cs := fun j v hv => (h.cell (p := ⟨b, o + j, none⟩) hb hF).trans (hr j v hv)
theorem send_one {b : Bu} {k t1 tn wait again at_ turns : Nat} {up : Bool} {l : List Nat} (hr : Bu.right b.rtu.length ⟨(k : Int), up, l⟩ = true) (h1 : b.time + 1 + wait = t1) (hn : (if b.rtu.getD k false = true then turns else 0) = tn) : sendB b ⟨(k : Int), up, l⟩ ⟨false, false, wait, again, at_, turns⟩ = ⟨b.rtu, b.time, b.l ++ [(t1, ⟨(k : Int), up, Bu.turned l at_ tn⟩)]⟩ := by
  subst h1 hn
  unfold sendB Bu.send
  rw [if_pos hr]
  simp
theorem send_two {b : Bu} {k t1 t2 tn wait again at_ turns : Nat} {up : Bool} {l : List Nat} (hr : Bu.right b.rtu.length ⟨(k : Int), up, l⟩ = true) (h1 : b.time + 1 + wait = t1) (h2 : b.time + 1 + again = t2) (hn : (if b.rtu.getD k false = true then turns else 0) = tn) : sendB b ⟨(k : Int), up, l⟩ ⟨false, true, wait, again, at_, turns⟩ = ⟨b.rtu, b.time, (b.l ++ [(t1, ⟨(k : Int), up, Bu.turned l at_ tn⟩)]) ++ [(t2, ⟨(k : Int), up, l⟩)]⟩ := by
  subst h1 h2 hn
  unfold sendB Bu.send
  rw [if_pos hr]
  simp
theorem size_fate : (Try.prog.info? 39).map (·.size) = some 6 := by kernel_rfl
theorem size_parc : (Try.prog.info? 36).map (·.size) = some 3 := by kernel_rfl
set_option maxRecDepth 100000 in
set_option maxHeartbeats 4000000 in
theorem send_more {w : World} {base gs gm rg rc : Nat} {b : Bu} {E : List En} (h : BusAt w base gs gm rg rc b E) (hb : base ≤ w.heap.size) (s : Int) (up : Bool) (l : List Nat) (A : Option Addr) (m c : Nat) (hm : l.length = m) (hsq : Sq byw w w.heap.size A l) (hnl : A = none → c = 0) (hu : ∀ x ∈ l, x < 256) (hA : 0 < m → ∀ p, A = some p → p.block ∉ bfoot gs gm rg E)
    (lost twice : Bool) (wait again at_ turns : Nat) (hwait : wait < 256) (hagain : again < 256) (hat : at_ < 65536) (htu : turns < 65536) (hln : b.l.length ≤ 90000) (htm : b.time ≤ 100000) :
    Calls Try.prog 16 #[.pointer (some ⟨gs, 0, none⟩), .agg (pmV s up A m c).toArray, .agg (faV lost twice wait again at_ turns).toArray] w (SendB w base gs gm rg rc b E ⟨s, up, l⟩ ⟨lost, twice, wait, again, at_, turns⟩) := by
  have hfr : Below w.heap.size w ((w.alloc (.cells (pmV s up A m c).toArray 36)).alloc (.cells (faV lost twice wait again at_ turns).toArray 39)) := bel_alloc (bel_alloc (Below.refl _ _) _) _
  have H0 := Lib.hid (h.to hfr)
  have Q0 := Lib.hid ((hsq.below hfr).more hfr.size)
  have RP : Hid (RowAt ((w.alloc (.cells (pmV s up A m c).toArray 36)).alloc (.cells (faV lost twice wait again at_ turns).toArray 39)) w.heap.size 36 (pmV s up A m c)) := Lib.hid ((RowAt.new _ _ _).alloc _)
  have RF : Hid (RowAt ((w.alloc (.cells (pmV s up A m c).toArray 36)).alloc (.cells (faV lost twice wait again at_ turns).toArray 39)) (w.heap.size + 1) 39 (faV lost twice wait again at_ turns)) := Lib.hid (RowAt.new' _ _ _ _ (by simp))
  have HFR := Lib.hid hfr
  have HW := Lib.hid h
  have HU := Lib.hid hu
  have HSQ := Lib.hid hsq
  have HM := Lib.hid hm
  clear hfr h hu hm hsq
  obtain ⟨r, hr⟩ : ∃ r, Bu.right b.rtu.length ⟨s, up, l⟩ = r := ⟨_, rfl⟩
  have HR := Lib.hid hr
  clear hr
  go_enter Try.func16, Try.ntmps16
  go_wp2_with fail
  generalize (w.alloc (.cells (pmV s up A m c).toArray 36)).alloc (.cells (faV lost twice wait again at_ turns).toArray 39) = W at *
  obtain ⟨gp, hgp⟩ : ∃ gp, w.heap.size = gp := ⟨_, rfl⟩
  obtain ⟨gf, hgf⟩ : ∃ gf, gp + 1 = gf := ⟨_, rfl⟩
  have HGP := Lib.hid hgp
  have hgpf : gp < gf := by omega
  rw [hgp] at RP RF hb ⊢
  rw [hgf] at RF ⊢
  clear hgp hgf
  (with_reducible refine (made_yes H0.out).mono ?_)
  rintro e w1 ⟨rfl, rfl⟩
  have plt : gp < (W).heap.size := RP.out.lt
  have plu : gp < (W).heap.size + 1 := Nat.lt_succ_of_lt RP.out.lt
  have p0 : (W).cell? ⟨gp, 0, none⟩ = some (.int .i64 s) := RP.out.cells 0
  have pz0 : (W).frozen? ⟨gp, 0, none⟩ = false := RP.out.frozen 0
  have p1 : (W).cell? ⟨gp, 1, none⟩ = some (.bool up) := RP.out.cells 1
  have pz1 : (W).frozen? ⟨gp, 1, none⟩ = false := RP.out.frozen 1
  have p2 : (W).cell? ⟨gp, 2, none⟩ = some (.slice A m c) := RP.out.cells 2
  have pz2 : (W).frozen? ⟨gp, 2, none⟩ = false := RP.out.frozen 2
  have CG1 : Hid (W.cell? ⟨gs, 1, none⟩ = some (.slice (some ⟨rg, 0, none⟩) b.rtu.length rc)) := Lib.hid (H0.out.row.cells 1)
  have KR : Hid (decide (0 ≤ s ∧ s < (b.rtu.length : Int) ∧ 1 ≤ m ∧ m ≤ 300) = r) := Lib.hid (by rw [← HR.out]; unfold Bu.right; dsimp only; rw [HM.out])
  go_wp2_with fail
  (with_reducible refine (right_any gs rg b.rtu.length rc s up A m c W CG1.out r KR.out).mono ?_)
  rintro e w1 ⟨rfl, b1⟩
  have hgsW : gs < gp := by have := HW.out.row.lt; have := HGP.out; omega
  have H1 := Lib.hid (H0.out.to b1)
  have Q1 := Lib.hid ((Q0.out.below b1).more b1.size)
  have RP1 := Lib.hid (RP.out.to b1)
  have RF1 := Lib.hid (RF.out.to b1)
  have B1 : Hid (Below w.heap.size w w1) := Lib.hid (HFR.out.trans (b1.mono HFR.out.size))
  clear b1 H0 Q0 RP RF HFR p0 p1 p2 pz0 pz1 pz2 plt plu
  have plt : gp < (w1).heap.size := RP1.out.lt
  have plu : gp < (w1).heap.size + 1 := Nat.lt_succ_of_lt RP1.out.lt
  have p0 : (w1).cell? ⟨gp, 0, none⟩ = some (.int .i64 s) := RP1.out.cells 0
  have pz0 : (w1).frozen? ⟨gp, 0, none⟩ = false := RP1.out.frozen 0
  have p1 : (w1).cell? ⟨gp, 1, none⟩ = some (.bool up) := RP1.out.cells 1
  have pz1 : (w1).frozen? ⟨gp, 1, none⟩ = false := RP1.out.frozen 1
  have p2 : (w1).cell? ⟨gp, 2, none⟩ = some (.slice A m c) := RP1.out.cells 2
  have pz2 : (w1).frozen? ⟨gp, 2, none⟩ = false := RP1.out.frozen 2
  have flt : gf < (w1).heap.size := RF1.out.lt
  have flu : gf < (w1).heap.size + 1 := Nat.lt_succ_of_lt RF1.out.lt
  have f0 : (w1).cell? ⟨gf, 0, none⟩ = some (.bool lost) := RF1.out.cells 0
  have fz0 : (w1).frozen? ⟨gf, 0, none⟩ = false := RF1.out.frozen 0
  have f1 : (w1).cell? ⟨gf, 1, none⟩ = some (.bool twice) := RF1.out.cells 1
  have fz1 : (w1).frozen? ⟨gf, 1, none⟩ = false := RF1.out.frozen 1
  have f2 : (w1).cell? ⟨gf, 2, none⟩ = some (.int .u8 (wait : Int)) := RF1.out.cells 2
  have fz2 : (w1).frozen? ⟨gf, 2, none⟩ = false := RF1.out.frozen 2
  have f3 : (w1).cell? ⟨gf, 3, none⟩ = some (.int .u8 (again : Int)) := RF1.out.cells 3
  have fz3 : (w1).frozen? ⟨gf, 3, none⟩ = false := RF1.out.frozen 3
  have f4 : (w1).cell? ⟨gf, 4, none⟩ = some (.int .u16 (at_ : Int)) := RF1.out.cells 4
  have fz4 : (w1).frozen? ⟨gf, 4, none⟩ = false := RF1.out.frozen 4
  have f5 : (w1).cell? ⟨gf, 5, none⟩ = some (.int .u16 (turns : Int)) := RF1.out.cells 5
  have fz5 : (w1).frozen? ⟨gf, 5, none⟩ = false := RF1.out.frozen 5
  cases r
  · go_wp2
    go_ret
    exact SendB.stay (by unfold sendE; rw [HR.out]; rfl) (by unfold sendB; rw [HR.out]; rfl) HW.out B1.out
  have hrt := of_decide_eq_true (p := _) HR.out
  dsimp only at hrt
  rw [HM.out] at hrt
  obtain ⟨k, rfl⟩ : ∃ k : Nat, s = (k : Int) := ⟨s.toNat, by omega⟩
  cases lost
  · obtain ⟨nr, hnr⟩ : ∃ nr, b.rtu.length = nr := ⟨_, rfl⟩
    have HNR := Lib.hid hnr
    rw [hnr] at hrt
    clear hnr
    have hkn : k < nr := by omega
    have hknI : (k : Int) < (nr : Int) := by omega
    have h0k : (0 : Int) ≤ (k : Int) := by omega
    obtain ⟨rb, hrb⟩ : ∃ rb, b.rtu[k]? = some rb := ⟨_, List.getElem?_eq_getElem (by rw [HNR.out]; exact hkn)⟩
    have HRB := Lib.hid hrb
    have hm1 : 1 ≤ m := hrt.2.2.1
    replace hA := hA hm1
    have hm3 : m ≤ 300 := hrt.2.2.2
    clear hrb hrt
    go_upto_region 8 with fail
    obtain ⟨W2, hW2⟩ : ∃ W2, w1.alloc (.cells #[.bool false, .bool twice, .int .u8 (wait : Int), .int .u8 (again : Int), .int .u16 (at_ : Int), .int .u16 (turns : Int)] 39) = W2 := ⟨_, rfl⟩
    obtain ⟨g7, hg7⟩ : ∃ g7, w1.heap.size = g7 := ⟨_, rfl⟩
    have hgf7 : gf < g7 := by have := RF1.out.lt; omega
    have b2 : Below w1.heap.size w1 W2 := by rw [← hW2]; exact bel_alloc (Below.refl _ _) _
    have R7 : Hid (RowAt W2 g7 39 (faV false twice wait again at_ turns)) := Lib.hid (by rw [← hW2, ← hg7]; exact RowAt.new _ _ _)
    have H2 := Lib.hid (H1.out.to b2)
    have Q2 := Lib.hid ((Q1.out.below b2).more b2.size)
    have RP2 := Lib.hid (RP1.out.to b2)
    have RF2 := Lib.hid (RF1.out.to b2)
    have B2 : Hid (Below w.heap.size w W2) := Lib.hid (B1.out.trans (b2.mono B1.out.size))
    have HG7 := Lib.hid hg7
    rw [hW2, hg7]
    clear hW2 hg7 b2 H1 Q1 RP1 RF1 B1 p0 p1 p2 pz0 pz1 pz2 plt plu f0 f1 f2 f3 f4 f5 fz0 fz1 fz2 fz3 fz4 fz5 flt flu
    have plt : gp < (W2).heap.size := RP2.out.lt
    have plu : gp < (W2).heap.size + 1 := Nat.lt_succ_of_lt RP2.out.lt
    have p0 : (W2).cell? ⟨gp, 0, none⟩ = some (.int .i64 (k : Int)) := RP2.out.cells 0
    have pz0 : (W2).frozen? ⟨gp, 0, none⟩ = false := RP2.out.frozen 0
    have p1 : (W2).cell? ⟨gp, 1, none⟩ = some (.bool up) := RP2.out.cells 1
    have pz1 : (W2).frozen? ⟨gp, 1, none⟩ = false := RP2.out.frozen 1
    have p2 : (W2).cell? ⟨gp, 2, none⟩ = some (.slice A m c) := RP2.out.cells 2
    have pz2 : (W2).frozen? ⟨gp, 2, none⟩ = false := RP2.out.frozen 2
    have cg1 : W2.cell? ⟨gs, 1, none⟩ = some (.slice (some ⟨rg, 0, none⟩) nr rc) := by rw [← HNR.out]; exact H2.out.row.cells 1
    have crb : W2.cell? ⟨rg, k, none⟩ = some (.bool rb) := by
      have h := H2.out.parts.rtu.cellAt k (by rw [HNR.out]; omega)
      rw [h, List.getElem?_map, HRB.out]
      rfl
    go_wp2
    go_quiet (fail)
    obtain ⟨W3, hW3⟩ : ∃ W3, W2.drewN nq = W3 := ⟨_, rfl⟩
    have b3 : Below W2.heap.size W2 W3 := by rw [← hW3]; exact bel_drewN (Below.refl _ _) _
    rw [hW3]
    have H3 := Lib.hid (H2.out.to b3)
    have Q3 := Lib.hid ((Q2.out.below b3).more b3.size)
    have RP3 := Lib.hid (RP2.out.to b3)
    have RF3 := Lib.hid (RF2.out.to b3)
    have R73 := Lib.hid (R7.out.to b3)
    have B3 : Hid (Below w.heap.size w W3) := Lib.hid (B2.out.trans (b3.mono B2.out.size))
    clear hW3 b3 H2 Q2 RP2 RF2 R7 B2 cg1 crb p0 p1 p2 pz0 pz1 pz2 plt plu
    cases rb
    · have ylt : g7 < (W3).heap.size := R73.out.lt
      have ylu : g7 < (W3).heap.size + 1 := Nat.lt_succ_of_lt R73.out.lt
      have y0 : (W3).cell? ⟨g7, 0, none⟩ = some (.bool false) := R73.out.cells 0
      have yz0 : (W3).frozen? ⟨g7, 0, none⟩ = false := R73.out.frozen 0
      have y1 : (W3).cell? ⟨g7, 1, none⟩ = some (.bool twice) := R73.out.cells 1
      have yz1 : (W3).frozen? ⟨g7, 1, none⟩ = false := R73.out.frozen 1
      have y2 : (W3).cell? ⟨g7, 2, none⟩ = some (.int .u8 (wait : Int)) := R73.out.cells 2
      have yz2 : (W3).frozen? ⟨g7, 2, none⟩ = false := R73.out.frozen 2
      have y3 : (W3).cell? ⟨g7, 3, none⟩ = some (.int .u8 (again : Int)) := R73.out.cells 3
      have yz3 : (W3).frozen? ⟨g7, 3, none⟩ = false := R73.out.frozen 3
      have y4 : (W3).cell? ⟨g7, 4, none⟩ = some (.int .u16 (at_ : Int)) := R73.out.cells 4
      have yz4 : (W3).frozen? ⟨g7, 4, none⟩ = false := R73.out.frozen 4
      have y5 : (W3).cell? ⟨g7, 5, none⟩ = some (.int .u16 (turns : Int)) := R73.out.cells 5
      have yz5 : (W3).frozen? ⟨g7, 5, none⟩ = false := R73.out.frozen 5
      go_upto_region 10 with fail
      obtain ⟨W4, hW4⟩ : ∃ W4, W3.setCell ⟨g7, 5, none⟩ (.int .u16 0) = W4 := ⟨_, rfl⟩
      have o4 : Only g7 W3 W4 := by rw [← hW4]; exact (Only.refl _ _).set _
      have R74 : Hid (RowAt W4 g7 39 (faV false twice wait again at_ 0)) := Lib.hid (by rw [← hW4]; exact R73.out.set 5 (.int .u16 0))
      have hfoot : ∀ x, x ∈ bfoot gs gm rg E → x < gp := fun x hx => by have h1 := (HW.out.foot_ge x hx).2; have h2 := HGP.out; omega
      have H4 := Lib.hid (H3.out.fr (F := [g7]) (Fr.of_only o4 (by simp)) (fun x hx hm => by have h1 := hfoot x hx; obtain rfl := List.mem_singleton.1 hm; omega))
      have RP4 := Lib.hid (RP3.out.only o4 (by omega))
      have RF4 := Lib.hid (RF3.out.only o4 (by omega))
      have B4 : Hid (Below w.heap.size w W4) := Lib.hid (B3.out.trans (o4.below (by have := HGP.out; omega)))
      have Q4 : Hid (Sq byw W4 W4.heap.size A l) := Lib.hid (by
        have h := HSQ.out.below B4.out
        exact h.more B4.out.size)
      have HTN : Hid ((if b.rtu.getD k false = true then turns else 0) = 0) := Lib.hid (by rw [List.getD_eq_getElem?_getD, HRB.out]; rfl)
      rw [hW4]
      clear hW4 o4 H3 Q3 RP3 RF3 R73 B3 y0 y1 y2 y3 y4 y5 yz0 yz1 yz2 yz3 yz4 yz5 ylt ylu
      have hpw : gp < W4.heap.size := RP4.out.lt
      have hfw : gf < W4.heap.size := RF4.out.lt
      have h7w : g7 < W4.heap.size := R74.out.lt
      have hct : W4.cell? ⟨gs, 2, none⟩ = some (.int .i64 (b.time : Int)) := H4.out.row.cells 2
      have hcw : W4.cell? ⟨gf, 2, none⟩ = some (.int .u8 (wait : Int)) := RF4.out.cells 2
      obtain ⟨t0, ht0⟩ : ∃ t0, b.time + 1 = t0 := ⟨_, rfl⟩
      obtain ⟨t1, ht1⟩ : ∃ t1, t0 + wait = t1 := ⟨_, rfl⟩
      obtain ⟨t2, ht2⟩ : ∃ t2, t0 + again = t2 := ⟨_, rfl⟩
      have e0 : (b.time : Int) + 1 = (t0 : Int) := by omega
      have e1 : (t0 : Int) + (wait : Int) = (t1 : Int) := by omega
      have e2 : (t0 : Int) + (again : Int) = (t2 : Int) := by omega
      have e0w : IntKind.i64.wrap ((b.time : Int) + 1) = (t0 : Int) := by rw [e0]; exact IntWalk.i64_in _ (by omega)
      have e1w : IntKind.i64.wrap ((t0 : Int) + (wait : Int)) = (t1 : Int) := by rw [e1]; exact IntWalk.i64_in _ (by omega)
      have e2w : IntKind.i64.wrap ((t0 : Int) + (again : Int)) = (t2 : Int) := by rw [e2]; exact IntWalk.i64_in _ (by omega)
      have ew0 : IntKind.i64.wrap (t0 : Int) = (t0 : Int) := IntWalk.i64_in _ (by omega)
      have ew1 : IntKind.i64.wrap (t1 : Int) = (t1 : Int) := IntWalk.i64_in _ (by omega)
      have ew2 : IntKind.i64.wrap (t2 : Int) = (t2 : Int) := IntWalk.i64_in _ (by omega)
      have eww : IntKind.i64.wrap (wait : Int) = (wait : Int) := IntWalk.i64_in _ (by omega)
      have ewa : IntKind.i64.wrap (again : Int) = (again : Int) := IntWalk.i64_in _ (by omega)
      have hlt1 : b.time < t1 := by omega
      have hlt2 : b.time < t2 := by omega
      have htl1 : t1 ≤ 1000000 := by omega
      have htl2 : t2 ≤ 1000000 := by omega
      have HT1 : Hid (b.time + 1 + wait = t1) := Lib.hid (by omega)
      have HT2 : Hid (b.time + 1 + again = t2) := Lib.hid (by omega)
      have hw4 : gp ≤ W4.heap.size := by omega
      clear ht0 ht1 ht2
      refine wp_region_held_drew (S := (fun w' => w'.cell? ⟨gs, 2, none⟩ = some (.int .i64 (b.time : Int)) ∧ w'.cell? ⟨gf, 2, none⟩ = some (.int .u8 (wait : Int)) ∧ w'.rangeAt gp 0 (pmV (k : Int) up A m c) ∧ w'.rangeAt g7 0 (faV false twice wait again at_ 0))) (by kernel_rfl) ?_ (fun hHeld => ?_)
      · exact ⟨hct, hcw, RP4.out.all, R74.out.all⟩
      refine takeD (i := 0) (oi := _) (v := ?vv11) (d := some 28) rfl (by kernel_rfl) (by kernel_rfl) (by kernel_rfl) (by kernel_rfl) (fun _ _ _ h => h) (Or.inl ⟨by kernel_rfl, ?_⟩) (by assumption) ?_
      rotate_left 1
      · intro W_ hSw; (try dsimp only at hSw); go_simp; (first | done | with_reducible rfl)
      try simp only [Act.put, List.setIfInBounds_toArray, List.set_cons_zero, List.set_cons_succ]
      refine takeD (i := 1) (oi := _) (v := ?vv12) (d := some 29) rfl (by kernel_rfl) (by kernel_rfl) (by kernel_rfl) (by kernel_rfl) (fun _ _ _ h => h) (Or.inl ⟨by kernel_rfl, ?_⟩) (by assumption) ?_
      rotate_left 1
      · intro W_ hSw; (try dsimp only at hSw); go_simp; (first | done | with_reducible rfl)
      try simp only [Act.put, List.setIfInBounds_toArray, List.set_cons_zero, List.set_cons_succ]
      refine takeD (i := 2) (oi := _) (v := ?vv13) (d := some 30) rfl (by kernel_rfl) (by kernel_rfl) (by kernel_rfl) (by kernel_rfl) (fun _ _ _ h => h) (Or.inl ⟨by kernel_rfl, ?_⟩) (by assumption) ?_
      rotate_left 1
      · intro W_ hSw; (try dsimp only at hSw); go_simp; (first | done | with_reducible rfl)
      try simp only [Act.put, List.setIfInBounds_toArray, List.set_cons_zero, List.set_cons_succ]
      refine takeD (i := 3) (oi := _) (v := ?vv14) (d := some 31) rfl (by kernel_rfl) (by kernel_rfl) (by kernel_rfl) (by kernel_rfl) (fun _ _ _ h => h) (Or.inl ⟨by kernel_rfl, ?_⟩) (by assumption) ?_
      rotate_left 1
      · intro W_ hSw; (try dsimp only at hSw); go_simp; (first | done | with_reducible rfl)
      try simp only [Act.put, List.setIfInBounds_toArray, List.set_cons_zero, List.set_cons_succ]
      refine takeD (i := 4) (oi := _) (v := ?vv15) (d := some 32) rfl (by kernel_rfl) (by kernel_rfl) (by kernel_rfl) (by kernel_rfl) (fun _ _ _ h => h) (Or.inl ⟨by kernel_rfl, ?_⟩) (by assumption) ?_
      rotate_left 1
      · intro W_ hSw; (try dsimp only at hSw); go_simp; (first | done | with_reducible rfl)
      try simp only [Act.put, List.setIfInBounds_toArray, List.set_cons_zero, List.set_cons_succ]
      refine takeD (i := 5) (oi := _) (v := ?vv16) (d := some 33) rfl (by kernel_rfl) (by kernel_rfl) (by kernel_rfl) (by kernel_rfl) (fun _ _ _ h => h) (Or.inl ⟨by kernel_rfl, ?_⟩) (by assumption) ?_
      rotate_left 1
      · intro W_ hSw; (try dsimp only at hSw); go_simp; (first | done | with_reducible rfl)
      try simp only [Act.put, List.setIfInBounds_toArray, List.set_cons_zero, List.set_cons_succ]
      refine takeD (i := 6) (oi := _) (v := ?vv17) (d := some 34) rfl (by kernel_rfl) (by kernel_rfl) (by kernel_rfl) (by kernel_rfl) (fun _ _ _ h => h) (Or.inl ⟨by kernel_rfl, ?_⟩) (by assumption) ?_
      rotate_left 1
      · intro W_ hSw; (try dsimp only at hSw); go_simp; (first | done | with_reducible rfl)
      try simp only [Act.put, List.setIfInBounds_toArray, List.set_cons_zero, List.set_cons_succ]
      refine takeD (i := 7) (oi := _) (v := ?vv18) (d := some 35) rfl (by kernel_rfl) (by kernel_rfl) (by kernel_rfl) (by kernel_rfl) (fun _ _ _ h => h) (Or.inl ⟨by kernel_rfl, ?_⟩) (by assumption) ?_
      rotate_left 1
      · intro W_ hSw; (try dsimp only at hSw); go_simp; (first | done | with_reducible rfl)
      try simp only [Act.put, List.setIfInBounds_toArray, List.set_cons_zero, List.set_cons_succ]
      refine takeD (i := 8) (oi := _) (v := ?vv19) (d := some 36) rfl (by kernel_rfl) (by kernel_rfl) (by kernel_rfl) (by kernel_rfl) (fun _ _ _ h => h) (Or.inl ⟨by kernel_rfl, ?_⟩) (by assumption) ?_
      rotate_left 1
      · intro W_ hSw; (try dsimp only at hSw); go_simp; (first | done | with_reducible rfl)
      try simp only [Act.put, List.setIfInBounds_toArray, List.set_cons_zero, List.set_cons_succ]
      refine takeD (i := 9) (oi := _) (v := ?vv20) (d := some 37) rfl (by kernel_rfl) (by kernel_rfl) (by kernel_rfl) (by kernel_rfl) (fun _ _ _ h => h) (Or.inl ⟨by kernel_rfl, ?_⟩) (by assumption) ?_
      rotate_left 1
      · intro W_ hSw; (try dsimp only at hSw); go_simp; (first | done | with_reducible rfl)
      try simp only [Act.put, List.setIfInBounds_toArray, List.set_cons_zero, List.set_cons_succ]
      refine takeD (i := 10) (oi := _) (v := _) (d := some 38) rfl (by kernel_rfl) (by kernel_rfl) (by kernel_rfl) (by kernel_rfl) (fun _ _ _ h => h) (yieldsIf_load_mid (by kernel_rfl) 36 (.tmp 4) (by kernel_rfl) gp 0 (by kernel_rfl) (pmV (k : Int) up A m c) _ (fun W h => h.2.2.1) Try.underlying36 rfl size_parc) (by assumption) ?_
      try simp only [Act.put, List.setIfInBounds_toArray, List.set_cons_zero, List.set_cons_succ]
      refine takeD (i := 11) (oi := _) (v := _) (d := some 39) rfl (by kernel_rfl) (by kernel_rfl) (by kernel_rfl) (by kernel_rfl) (fun _ _ _ h => h) (yieldsIf_load_mid (by kernel_rfl) 39 (.tmp 7) (by kernel_rfl) g7 0 (by kernel_rfl) (faV false twice wait again at_ 0) _ (fun W h => h.2.2.2) Try.underlying39 rfl size_fate) (by assumption) ?_
      try simp only [Act.put, List.setIfInBounds_toArray, List.set_cons_zero, List.set_cons_succ]
      refine wpAnyH_ready (rs := [12]) (by kernel_rfl) (by simp) ?_
      refine AllReadyH.cons (o := _) rfl (fun K hK => ?_) AllReadyH.nil
      go_simp
      (go_at_call 27; (with_reducible refine (inverted_any (k : Int) up l A m c false twice wait again at_ 0 _ HM.out ((Q4.out.below (Below.refl _ _).drew).more (Nat.le_refl _)) hm3 hm1 hnl HU.out hat (by first | exact htu | decide)).mono ?_); rintro e w5 ⟨A5, c5, rfl, o5, b5⟩; rw [show (Par.mk (k : Int) up (Bu.turned l at_ 0)).b.length = m from (Bu.turned_length _ _ _).trans HM.out] at o5 ⊢; obtain ⟨g5, rfl, hg5, hg5l⟩ := own_somep o5 (by omega); have B5 : Hid (Below W4.heap.size W4 w5) := Lib.hid ((Below.refl W4.heap.size W4).drew.trans b5); have O5 := Lib.hid o5; clear o5 b5)
      go_wp2_with fail
      refine hK.out _ _ ?_ (fun hHeld => ?_)
      · exact ⟨(B5.out.cell (p := ⟨gs, 2, none⟩) (by show gs < _; omega)).trans hct, (B5.out.cell (p := ⟨gf, 2, none⟩) hfw).trans hcw, range_below' RP4.out.all B5.out hpw, range_below' R74.out.all B5.out h7w⟩
      clear hK K
      try simp only [Act.put, List.setIfInBounds_toArray, List.set_cons_zero, List.set_cons_succ]
      have H5 := Lib.hid (H4.out.to B5.out)
      have RP5 := Lib.hid (RP4.out.to B5.out)
      have RF5 := Lib.hid (RF4.out.to B5.out)
      have R75 := Lib.hid (R74.out.to B5.out)
      have hg5w : W4.heap.size ≤ g5 := hg5
      have hbw5 : gp ≤ w5.heap.size := Nat.le_trans hw4 B5.out.size
      have PM5 : Hid (pmOwn w5 base ⟨⟨(k : Int), up, Bu.turned l at_ 0⟩, g5, c5⟩) := Lib.hid (by
        unfold pmOwn
        dsimp only
        rw [show (Bu.turned l at_ 0).length = m from (Bu.turned_length _ _ _).trans HM.out]
        exact own_more O5.out (by show base ≤ W4.heap.size; omega))
      have TU : Hid (∀ x ∈ Bu.turned l at_ 0, x < 256) := Lib.hid (Bu.turn_u HU.out)
      have hft : ∀ y, gp ≤ y → y ∉ bfoot gs gm rg E := fun y hy hm => by have := hfoot y hm; omega
      refine wpAnyH_ready (rs := [13]) (by kernel_rfl) (by simp) ?_
      refine AllReadyH.cons (o := _) rfl (fun K hK => ?_) AllReadyH.nil
      go_simp
      (go_at_call 26; (with_reducible refine (add_any H5.out (by omega) t1 hlt1 htl1 ⟨⟨(k : Int), up, Bu.turned l at_ 0⟩, g5, c5⟩ m ((Bu.turned_length _ _ _).trans HM.out) PM5.out TU.out (by omega)).mono ?_); rintro e w6 ⟨E1, rfl, h6, f6, ft6, bp6⟩; have BP6 := Lib.hid bp6; have H6 := Lib.hid h6; have F6 := Lib.hid f6; have FT6 := Lib.hid ft6; have RP6 : Hid (RowAt w6 gp _ _) := Lib.hid (f6.row RP5.out (hft gp (Nat.le_refl _))); have RF6 : Hid (RowAt w6 gf _ _) := Lib.hid (f6.row RF5.out (hft gf (by omega))); have R76 : Hid (RowAt w6 g7 _ _) := Lib.hid (f6.row R75.out (hft g7 (by omega))); clear h6 f6 ft6 bp6)
      go_wp2_with fail
      refine hK.out _ _ ?_ (fun hHeld => ?_)
      · exact ⟨H6.out.row.cells 2, RF6.out.cells 2, RP6.out.all, R76.out.all⟩
      clear hK K
      try simp only [Act.put, List.setIfInBounds_toArray, List.set_cons_zero, List.set_cons_succ]
      refine wpAnyH_done (by kernel_rfl) ?_ _
      have FW6 : Hid (Fr (bfoot gs gm rg E) w w6) := Lib.hid ((Fr.of_below _ (B4.out.trans (B5.out.mono B4.out.size))).trans F6.out (fun _ h => .inl h))
      have FT1 : Hid (∀ x, x ∈ bfoot gs gm rg E1 → x ∈ bfoot gs gm rg E ∨ w.heap.size ≤ x) := Lib.hid (fun x hx => by
        have hz := HGP.out
        rcases FT6.out x hx with h | h | h
        · exact .inl h
        · exact .inr (by first | omega | (dsimp only at h; omega))
        · exact .inr (by omega))
      have flt : gf < (w6).heap.size := RF6.out.lt
      have flu : gf < (w6).heap.size + 1 := Nat.lt_succ_of_lt RF6.out.lt
      have f0 : (w6).cell? ⟨gf, 0, none⟩ = some (.bool false) := RF6.out.cells 0
      have fz0 : (w6).frozen? ⟨gf, 0, none⟩ = false := RF6.out.frozen 0
      have f1 : (w6).cell? ⟨gf, 1, none⟩ = some (.bool twice) := RF6.out.cells 1
      have fz1 : (w6).frozen? ⟨gf, 1, none⟩ = false := RF6.out.frozen 1
      have f2 : (w6).cell? ⟨gf, 2, none⟩ = some (.int .u8 (wait : Int)) := RF6.out.cells 2
      have fz2 : (w6).frozen? ⟨gf, 2, none⟩ = false := RF6.out.frozen 2
      have f3 : (w6).cell? ⟨gf, 3, none⟩ = some (.int .u8 (again : Int)) := RF6.out.cells 3
      have fz3 : (w6).frozen? ⟨gf, 3, none⟩ = false := RF6.out.frozen 3
      have f4 : (w6).cell? ⟨gf, 4, none⟩ = some (.int .u16 (at_ : Int)) := RF6.out.cells 4
      have fz4 : (w6).frozen? ⟨gf, 4, none⟩ = false := RF6.out.frozen 4
      have f5 : (w6).cell? ⟨gf, 5, none⟩ = some (.int .u16 (turns : Int)) := RF6.out.cells 5
      have fz5 : (w6).frozen? ⟨gf, 5, none⟩ = false := RF6.out.frozen 5
      cases twice
      · have HSB := Lib.hid (send_one (b := b) (up := up) (l := l) (wait := wait) (again := again) (at_ := at_) HR.out HT1.out HTN.out)
        go_wp2
        go_ret
        exact ⟨E1, by unfold sendE; rw [HR.out]; rfl, by rw [HSB.out]; exact H6.out, FW6.out, FT1.out, Lib.hid ⟨[g5], BP6.out, by simp, fun x hx => by have hz := HGP.out; obtain rfl := List.mem_singleton.1 hx; omega⟩⟩
      · have HSB := Lib.hid (send_two (b := b) (up := up) (l := l) (wait := wait) (again := again) (at_ := at_) HR.out HT1.out HT2.out HTN.out)
        go_upto_region 12 with fail
        have hct6 : w6.cell? ⟨gs, 2, none⟩ = some (.int .i64 (b.time : Int)) := H6.out.row.cells 2
        have hpw6 : gp < w6.heap.size := RP6.out.lt
        have hfw6 : gf < w6.heap.size := RF6.out.lt
        have hgs6 : gs < w6.heap.size := H6.out.row.lt
        have Q6 : Hid (Sq byw w6 w6.heap.size A l) := Lib.hid ((Sq.fr HSQ.out FW6.out (Nat.le_refl _) hA).more FW6.out.size)
        clear hHeld
        refine wp_region_held_drew (S := (fun w' => w'.cell? ⟨gs, 2, none⟩ = some (.int .i64 (b.time : Int)) ∧ w'.cell? ⟨gf, 3, none⟩ = some (.int .u8 (again : Int)) ∧ w'.rangeAt gp 0 (pmV (k : Int) up A m c))) (by kernel_rfl) ?_ (fun hHeld => ?_)
        · exact ⟨hct6, f3, RP6.out.all⟩
        refine takeD (i := 0) (oi := _) (v := ?vv21) (d := some 44) rfl (by kernel_rfl) (by kernel_rfl) (by kernel_rfl) (by kernel_rfl) (fun _ _ _ h => h) (Or.inl ⟨by kernel_rfl, ?_⟩) (by assumption) ?_
        rotate_left 1
        · intro W_ hSw; (try dsimp only at hSw); go_simp; (first | done | with_reducible rfl)
        try simp only [Act.put, List.setIfInBounds_toArray, List.set_cons_zero, List.set_cons_succ]
        refine takeD (i := 1) (oi := _) (v := ?vv22) (d := some 45) rfl (by kernel_rfl) (by kernel_rfl) (by kernel_rfl) (by kernel_rfl) (fun _ _ _ h => h) (Or.inl ⟨by kernel_rfl, ?_⟩) (by assumption) ?_
        rotate_left 1
        · intro W_ hSw; (try dsimp only at hSw); go_simp; (first | done | with_reducible rfl)
        try simp only [Act.put, List.setIfInBounds_toArray, List.set_cons_zero, List.set_cons_succ]
        refine takeD (i := 2) (oi := _) (v := ?vv23) (d := some 46) rfl (by kernel_rfl) (by kernel_rfl) (by kernel_rfl) (by kernel_rfl) (fun _ _ _ h => h) (Or.inl ⟨by kernel_rfl, ?_⟩) (by assumption) ?_
        rotate_left 1
        · intro W_ hSw; (try dsimp only at hSw); go_simp; (first | done | with_reducible rfl)
        try simp only [Act.put, List.setIfInBounds_toArray, List.set_cons_zero, List.set_cons_succ]
        refine takeD (i := 3) (oi := _) (v := ?vv24) (d := some 47) rfl (by kernel_rfl) (by kernel_rfl) (by kernel_rfl) (by kernel_rfl) (fun _ _ _ h => h) (Or.inl ⟨by kernel_rfl, ?_⟩) (by assumption) ?_
        rotate_left 1
        · intro W_ hSw; (try dsimp only at hSw); go_simp; (first | done | with_reducible rfl)
        try simp only [Act.put, List.setIfInBounds_toArray, List.set_cons_zero, List.set_cons_succ]
        refine takeD (i := 4) (oi := _) (v := ?vv25) (d := some 48) rfl (by kernel_rfl) (by kernel_rfl) (by kernel_rfl) (by kernel_rfl) (fun _ _ _ h => h) (Or.inl ⟨by kernel_rfl, ?_⟩) (by assumption) ?_
        rotate_left 1
        · intro W_ hSw; (try dsimp only at hSw); go_simp; (first | done | with_reducible rfl)
        try simp only [Act.put, List.setIfInBounds_toArray, List.set_cons_zero, List.set_cons_succ]
        refine takeD (i := 5) (oi := _) (v := ?vv26) (d := some 49) rfl (by kernel_rfl) (by kernel_rfl) (by kernel_rfl) (by kernel_rfl) (fun _ _ _ h => h) (Or.inl ⟨by kernel_rfl, ?_⟩) (by assumption) ?_
        rotate_left 1
        · intro W_ hSw; (try dsimp only at hSw); go_simp; (first | done | with_reducible rfl)
        try simp only [Act.put, List.setIfInBounds_toArray, List.set_cons_zero, List.set_cons_succ]
        refine takeD (i := 6) (oi := _) (v := ?vv27) (d := some 50) rfl (by kernel_rfl) (by kernel_rfl) (by kernel_rfl) (by kernel_rfl) (fun _ _ _ h => h) (Or.inl ⟨by kernel_rfl, ?_⟩) (by assumption) ?_
        rotate_left 1
        · intro W_ hSw; (try dsimp only at hSw); go_simp; (first | done | with_reducible rfl)
        try simp only [Act.put, List.setIfInBounds_toArray, List.set_cons_zero, List.set_cons_succ]
        refine takeD (i := 7) (oi := _) (v := ?vv28) (d := some 51) rfl (by kernel_rfl) (by kernel_rfl) (by kernel_rfl) (by kernel_rfl) (fun _ _ _ h => h) (Or.inl ⟨by kernel_rfl, ?_⟩) (by assumption) ?_
        rotate_left 1
        · intro W_ hSw; (try dsimp only at hSw); go_simp; (first | done | with_reducible rfl)
        try simp only [Act.put, List.setIfInBounds_toArray, List.set_cons_zero, List.set_cons_succ]
        refine takeD (i := 8) (oi := _) (v := ?vv29) (d := some 52) rfl (by kernel_rfl) (by kernel_rfl) (by kernel_rfl) (by kernel_rfl) (fun _ _ _ h => h) (Or.inl ⟨by kernel_rfl, ?_⟩) (by assumption) ?_
        rotate_left 1
        · intro W_ hSw; (try dsimp only at hSw); go_simp; (first | done | with_reducible rfl)
        try simp only [Act.put, List.setIfInBounds_toArray, List.set_cons_zero, List.set_cons_succ]
        refine takeD (i := 9) (oi := _) (v := ?vv30) (d := some 53) rfl (by kernel_rfl) (by kernel_rfl) (by kernel_rfl) (by kernel_rfl) (fun _ _ _ h => h) (Or.inl ⟨by kernel_rfl, ?_⟩) (by assumption) ?_
        rotate_left 1
        · intro W_ hSw; (try dsimp only at hSw); go_simp; (first | done | with_reducible rfl)
        try simp only [Act.put, List.setIfInBounds_toArray, List.set_cons_zero, List.set_cons_succ]
        refine takeD (i := 10) (oi := _) (v := _) (d := some 54) rfl (by kernel_rfl) (by kernel_rfl) (by kernel_rfl) (by kernel_rfl) (fun _ _ _ h => h) (yieldsIf_load_mid (by kernel_rfl) 36 (.tmp 4) (by kernel_rfl) gp 0 (by kernel_rfl) (pmV (k : Int) up A m c) _ (fun W h => h.2.2) Try.underlying36 rfl size_parc) (by assumption) ?_
        try simp only [Act.put, List.setIfInBounds_toArray, List.set_cons_zero, List.set_cons_succ]
        have b6d : Below w6.heap.size w6 w6.drew := (Below.refl _ _).drew
        refine wpAnyH_ready (rs := [11]) (by kernel_rfl) (by simp) ?_
        refine AllReadyH.cons (o := _) rfl (fun K hK => ?_) AllReadyH.nil
        go_simp
        (go_at_call 28; (with_reducible refine (copied_any (k : Int) up l A m c _ HM.out ((Q6.out.below b6d).more b6d.size) (by omega) hnl).mono ?_); rintro e w7 ⟨A7, c7, rfl, o7, b7⟩; rw [show (Par.mk (k : Int) up l).b.length = m from HM.out] at o7 ⊢; obtain ⟨g8, rfl, hg8, hg8l⟩ := own_somep o7 (by omega); have B7 : Hid (Below w6.heap.size w6 w7) := Lib.hid (b6d.trans b7); have O7 := Lib.hid o7; clear o7 b7)
        go_wp2_with fail
        refine hK.out _ _ ?_ (fun hHeld => ?_)
        · exact ⟨(B7.out.cell (p := ⟨gs, 2, none⟩) hgs6).trans hct6, (B7.out.cell (p := ⟨gf, 3, none⟩) hfw6).trans f3, range_below' RP6.out.all B7.out hpw6⟩
        clear hK K
        try simp only [Act.put, List.setIfInBounds_toArray, List.set_cons_zero, List.set_cons_succ]
        have H7 := Lib.hid (H6.out.to B7.out)
        have RP7 := Lib.hid (RP6.out.to B7.out)
        have RF7 := Lib.hid (RF6.out.to B7.out)
        have hw6z : gp ≤ w6.heap.size := by omega
        have H58 : Hid ([g5, g8].Nodup) := Lib.hid (by have h1 := F6.out.size; have h2 : w6.heap.size ≤ g8 := hg8; simp; omega)
        have hg8w : w6.heap.size ≤ g8 := hg8
        have hbw7 : gp ≤ w7.heap.size := Nat.le_trans hw6z B7.out.size
        have PM7 : Hid (pmOwn w7 base ⟨⟨(k : Int), up, l⟩, g8, c7⟩) := Lib.hid (by
          unfold pmOwn
          dsimp only
          rw [HM.out]
          exact own_more O7.out (by show base ≤ w6.heap.size; omega))
        have hfoot1 : ∀ y, y ∈ bfoot gs gm rg E1 → y < w6.heap.size := fun y hy => (H6.out.foot_ge y hy).2
        have hft1 : ∀ y, gp ≤ y → y < w6.heap.size → (y = gp ∨ y = gf) → y ∉ bfoot gs gm rg E1 := fun y hy hyl hyy hm => by
          rcases FT6.out y hm with h | h | h
          · exact hft y hy h
          · have h' : y = g5 := h; omega
          · have := B5.out.size; omega
        have HLL : Hid ((b.l ++ [(t1, (Par.mk (k : Int) up (Bu.turned l at_ 0)))]).length ≤ 100000) := Lib.hid (by rw [List.length_append]; simp; omega)
        have hlt2b : (Bu.mk b.rtu b.time (b.l ++ [(t1, (Par.mk (k : Int) up (Bu.turned l at_ 0)))])).time < t2 := hlt2
        refine wpAnyH_ready (rs := [12]) (by kernel_rfl) (by simp) ?_
        refine AllReadyH.cons (o := _) rfl (fun K hK => ?_) AllReadyH.nil
        go_simp
        (go_at_call 26; (with_reducible refine (add_any H7.out (by omega) t2 hlt2b htl2 ⟨⟨(k : Int), up, l⟩, g8, c7⟩ m HM.out PM7.out HU.out HLL.out).mono ?_); rintro e w8 ⟨E2, rfl, h8, f8, ft8, bp8⟩; have BP8 := Lib.hid bp8; have H8 := Lib.hid h8; have F8 := Lib.hid f8; have FT8 := Lib.hid ft8; have RP8 : Hid (RowAt w8 gp _ _) := Lib.hid (f8.row RP7.out (hft1 gp (Nat.le_refl _) hpw6 (.inl rfl))); have RF8 : Hid (RowAt w8 gf _ _) := Lib.hid (f8.row RF7.out (hft1 gf (by omega) hfw6 (.inr rfl))); clear h8 f8 ft8 bp8)
        go_wp2_with fail
        refine hK.out _ _ ?_ (fun hHeld => ?_)
        · exact ⟨H8.out.row.cells 2, RF8.out.cells 3, RP8.out.all⟩
        clear hK K
        try simp only [Act.put, List.setIfInBounds_toArray, List.set_cons_zero, List.set_cons_succ]
        refine wpAnyH_done (by kernel_rfl) ?_ _
        have FW8 : Hid (Fr (bfoot gs gm rg E) w w8) := Lib.hid ((FW6.out.trans (Fr.of_below (bfoot gs gm rg E) B7.out) (fun _ h => .inl h)).trans F8.out (fun x h => FT1.out x h))
        have FT2 : Hid (∀ x, x ∈ bfoot gs gm rg E2 → x ∈ bfoot gs gm rg E ∨ w.heap.size ≤ x) := Lib.hid (fun x hx => by
          have hz := HGP.out
          rcases FT8.out x hx with h | h | h
          · exact FT1.out x h
          · have h' : x = g8 := h; exact .inr (by omega)
          · exact .inr (by omega))
        go_wp2
        go_ret
        exact ⟨E2, by unfold sendE; rw [HR.out]; rfl, by rw [HSB.out]; exact H8.out, FW8.out, FT2.out, Lib.hid ⟨[g5, g8], BP8.out.trans (by have h := BP6.out.append_right [g8]; rw [List.append_assoc] at h; exact h), H58.out, fun x hx => by have hz := HGP.out; simp at hx; omega⟩⟩
    · go_upto_region 10 with fail
      have hfoot : ∀ x, x ∈ bfoot gs gm rg E → x < gp := fun x hx => by have h1 := (HW.out.foot_ge x hx).2; have h2 := HGP.out; omega
      have HTN : Hid ((if b.rtu.getD k false = true then turns else 0) = turns) := Lib.hid (by rw [List.getD_eq_getElem?_getD, HRB.out]; rfl)
      have hpw : gp < W3.heap.size := RP3.out.lt
      have hfw : gf < W3.heap.size := RF3.out.lt
      have h7w : g7 < W3.heap.size := R73.out.lt
      have hct : W3.cell? ⟨gs, 2, none⟩ = some (.int .i64 (b.time : Int)) := H3.out.row.cells 2
      have hcw : W3.cell? ⟨gf, 2, none⟩ = some (.int .u8 (wait : Int)) := RF3.out.cells 2
      obtain ⟨t0, ht0⟩ : ∃ t0, b.time + 1 = t0 := ⟨_, rfl⟩
      obtain ⟨t1, ht1⟩ : ∃ t1, t0 + wait = t1 := ⟨_, rfl⟩
      obtain ⟨t2, ht2⟩ : ∃ t2, t0 + again = t2 := ⟨_, rfl⟩
      have e0 : (b.time : Int) + 1 = (t0 : Int) := by omega
      have e1 : (t0 : Int) + (wait : Int) = (t1 : Int) := by omega
      have e2 : (t0 : Int) + (again : Int) = (t2 : Int) := by omega
      have e0w : IntKind.i64.wrap ((b.time : Int) + 1) = (t0 : Int) := by rw [e0]; exact IntWalk.i64_in _ (by omega)
      have e1w : IntKind.i64.wrap ((t0 : Int) + (wait : Int)) = (t1 : Int) := by rw [e1]; exact IntWalk.i64_in _ (by omega)
      have e2w : IntKind.i64.wrap ((t0 : Int) + (again : Int)) = (t2 : Int) := by rw [e2]; exact IntWalk.i64_in _ (by omega)
      have ew0 : IntKind.i64.wrap (t0 : Int) = (t0 : Int) := IntWalk.i64_in _ (by omega)
      have ew1 : IntKind.i64.wrap (t1 : Int) = (t1 : Int) := IntWalk.i64_in _ (by omega)
      have ew2 : IntKind.i64.wrap (t2 : Int) = (t2 : Int) := IntWalk.i64_in _ (by omega)
      have eww : IntKind.i64.wrap (wait : Int) = (wait : Int) := IntWalk.i64_in _ (by omega)
      have ewa : IntKind.i64.wrap (again : Int) = (again : Int) := IntWalk.i64_in _ (by omega)
      have hlt1 : b.time < t1 := by omega
      have hlt2 : b.time < t2 := by omega
      have htl1 : t1 ≤ 1000000 := by omega
      have htl2 : t2 ≤ 1000000 := by omega
      have HT1 : Hid (b.time + 1 + wait = t1) := Lib.hid (by omega)
      have HT2 : Hid (b.time + 1 + again = t2) := Lib.hid (by omega)
      have hw4 : gp ≤ W3.heap.size := by omega
      clear ht0 ht1 ht2
      refine wp_region_held_drew (S := (fun w' => w'.cell? ⟨gs, 2, none⟩ = some (.int .i64 (b.time : Int)) ∧ w'.cell? ⟨gf, 2, none⟩ = some (.int .u8 (wait : Int)) ∧ w'.rangeAt gp 0 (pmV (k : Int) up A m c) ∧ w'.rangeAt g7 0 (faV false twice wait again at_ turns))) (by kernel_rfl) ?_ (fun hHeld => ?_)
      · exact ⟨hct, hcw, RP3.out.all, R73.out.all⟩
      refine takeD (i := 0) (oi := _) (v := ?vv31) (d := some 28) rfl (by kernel_rfl) (by kernel_rfl) (by kernel_rfl) (by kernel_rfl) (fun _ _ _ h => h) (Or.inl ⟨by kernel_rfl, ?_⟩) (by assumption) ?_
      rotate_left 1
      · intro W_ hSw; (try dsimp only at hSw); go_simp; (first | done | with_reducible rfl)
      try simp only [Act.put, List.setIfInBounds_toArray, List.set_cons_zero, List.set_cons_succ]
      refine takeD (i := 1) (oi := _) (v := ?vv32) (d := some 29) rfl (by kernel_rfl) (by kernel_rfl) (by kernel_rfl) (by kernel_rfl) (fun _ _ _ h => h) (Or.inl ⟨by kernel_rfl, ?_⟩) (by assumption) ?_
      rotate_left 1
      · intro W_ hSw; (try dsimp only at hSw); go_simp; (first | done | with_reducible rfl)
      try simp only [Act.put, List.setIfInBounds_toArray, List.set_cons_zero, List.set_cons_succ]
      refine takeD (i := 2) (oi := _) (v := ?vv33) (d := some 30) rfl (by kernel_rfl) (by kernel_rfl) (by kernel_rfl) (by kernel_rfl) (fun _ _ _ h => h) (Or.inl ⟨by kernel_rfl, ?_⟩) (by assumption) ?_
      rotate_left 1
      · intro W_ hSw; (try dsimp only at hSw); go_simp; (first | done | with_reducible rfl)
      try simp only [Act.put, List.setIfInBounds_toArray, List.set_cons_zero, List.set_cons_succ]
      refine takeD (i := 3) (oi := _) (v := ?vv34) (d := some 31) rfl (by kernel_rfl) (by kernel_rfl) (by kernel_rfl) (by kernel_rfl) (fun _ _ _ h => h) (Or.inl ⟨by kernel_rfl, ?_⟩) (by assumption) ?_
      rotate_left 1
      · intro W_ hSw; (try dsimp only at hSw); go_simp; (first | done | with_reducible rfl)
      try simp only [Act.put, List.setIfInBounds_toArray, List.set_cons_zero, List.set_cons_succ]
      refine takeD (i := 4) (oi := _) (v := ?vv35) (d := some 32) rfl (by kernel_rfl) (by kernel_rfl) (by kernel_rfl) (by kernel_rfl) (fun _ _ _ h => h) (Or.inl ⟨by kernel_rfl, ?_⟩) (by assumption) ?_
      rotate_left 1
      · intro W_ hSw; (try dsimp only at hSw); go_simp; (first | done | with_reducible rfl)
      try simp only [Act.put, List.setIfInBounds_toArray, List.set_cons_zero, List.set_cons_succ]
      refine takeD (i := 5) (oi := _) (v := ?vv36) (d := some 33) rfl (by kernel_rfl) (by kernel_rfl) (by kernel_rfl) (by kernel_rfl) (fun _ _ _ h => h) (Or.inl ⟨by kernel_rfl, ?_⟩) (by assumption) ?_
      rotate_left 1
      · intro W_ hSw; (try dsimp only at hSw); go_simp; (first | done | with_reducible rfl)
      try simp only [Act.put, List.setIfInBounds_toArray, List.set_cons_zero, List.set_cons_succ]
      refine takeD (i := 6) (oi := _) (v := ?vv37) (d := some 34) rfl (by kernel_rfl) (by kernel_rfl) (by kernel_rfl) (by kernel_rfl) (fun _ _ _ h => h) (Or.inl ⟨by kernel_rfl, ?_⟩) (by assumption) ?_
      rotate_left 1
      · intro W_ hSw; (try dsimp only at hSw); go_simp; (first | done | with_reducible rfl)
      try simp only [Act.put, List.setIfInBounds_toArray, List.set_cons_zero, List.set_cons_succ]
      refine takeD (i := 7) (oi := _) (v := ?vv38) (d := some 35) rfl (by kernel_rfl) (by kernel_rfl) (by kernel_rfl) (by kernel_rfl) (fun _ _ _ h => h) (Or.inl ⟨by kernel_rfl, ?_⟩) (by assumption) ?_
      rotate_left 1
      · intro W_ hSw; (try dsimp only at hSw); go_simp; (first | done | with_reducible rfl)
      try simp only [Act.put, List.setIfInBounds_toArray, List.set_cons_zero, List.set_cons_succ]
      refine takeD (i := 8) (oi := _) (v := ?vv39) (d := some 36) rfl (by kernel_rfl) (by kernel_rfl) (by kernel_rfl) (by kernel_rfl) (fun _ _ _ h => h) (Or.inl ⟨by kernel_rfl, ?_⟩) (by assumption) ?_
      rotate_left 1
      · intro W_ hSw; (try dsimp only at hSw); go_simp; (first | done | with_reducible rfl)
      try simp only [Act.put, List.setIfInBounds_toArray, List.set_cons_zero, List.set_cons_succ]
      refine takeD (i := 9) (oi := _) (v := ?vv40) (d := some 37) rfl (by kernel_rfl) (by kernel_rfl) (by kernel_rfl) (by kernel_rfl) (fun _ _ _ h => h) (Or.inl ⟨by kernel_rfl, ?_⟩) (by assumption) ?_
      rotate_left 1
      · intro W_ hSw; (try dsimp only at hSw); go_simp; (first | done | with_reducible rfl)
      try simp only [Act.put, List.setIfInBounds_toArray, List.set_cons_zero, List.set_cons_succ]
      refine takeD (i := 10) (oi := _) (v := _) (d := some 38) rfl (by kernel_rfl) (by kernel_rfl) (by kernel_rfl) (by kernel_rfl) (fun _ _ _ h => h) (yieldsIf_load_mid (by kernel_rfl) 36 (.tmp 4) (by kernel_rfl) gp 0 (by kernel_rfl) (pmV (k : Int) up A m c) _ (fun W h => h.2.2.1) Try.underlying36 rfl size_parc) (by assumption) ?_
      try simp only [Act.put, List.setIfInBounds_toArray, List.set_cons_zero, List.set_cons_succ]
      refine takeD (i := 11) (oi := _) (v := _) (d := some 39) rfl (by kernel_rfl) (by kernel_rfl) (by kernel_rfl) (by kernel_rfl) (fun _ _ _ h => h) (yieldsIf_load_mid (by kernel_rfl) 39 (.tmp 7) (by kernel_rfl) g7 0 (by kernel_rfl) (faV false twice wait again at_ turns) _ (fun W h => h.2.2.2) Try.underlying39 rfl size_fate) (by assumption) ?_
      try simp only [Act.put, List.setIfInBounds_toArray, List.set_cons_zero, List.set_cons_succ]
      refine wpAnyH_ready (rs := [12]) (by kernel_rfl) (by simp) ?_
      refine AllReadyH.cons (o := _) rfl (fun K hK => ?_) AllReadyH.nil
      go_simp
      (go_at_call 27; (with_reducible refine (inverted_any (k : Int) up l A m c false twice wait again at_ turns _ HM.out ((Q3.out.below (Below.refl _ _).drew).more (Nat.le_refl _)) hm3 hm1 hnl HU.out hat (by first | exact htu | decide)).mono ?_); rintro e w5 ⟨A5, c5, rfl, o5, b5⟩; rw [show (Par.mk (k : Int) up (Bu.turned l at_ turns)).b.length = m from (Bu.turned_length _ _ _).trans HM.out] at o5 ⊢; obtain ⟨g5, rfl, hg5, hg5l⟩ := own_somep o5 (by omega); have B5 : Hid (Below W3.heap.size W3 w5) := Lib.hid ((Below.refl W3.heap.size W3).drew.trans b5); have O5 := Lib.hid o5; clear o5 b5)
      go_wp2_with fail
      refine hK.out _ _ ?_ (fun hHeld => ?_)
      · exact ⟨(B5.out.cell (p := ⟨gs, 2, none⟩) (by show gs < _; omega)).trans hct, (B5.out.cell (p := ⟨gf, 2, none⟩) hfw).trans hcw, range_below' RP3.out.all B5.out hpw, range_below' R73.out.all B5.out h7w⟩
      clear hK K
      try simp only [Act.put, List.setIfInBounds_toArray, List.set_cons_zero, List.set_cons_succ]
      have H5 := Lib.hid (H3.out.to B5.out)
      have RP5 := Lib.hid (RP3.out.to B5.out)
      have RF5 := Lib.hid (RF3.out.to B5.out)
      have R75 := Lib.hid (R73.out.to B5.out)
      have hg5w : W3.heap.size ≤ g5 := hg5
      have hbw5 : gp ≤ w5.heap.size := Nat.le_trans hw4 B5.out.size
      have PM5 : Hid (pmOwn w5 base ⟨⟨(k : Int), up, Bu.turned l at_ turns⟩, g5, c5⟩) := Lib.hid (by
        unfold pmOwn
        dsimp only
        rw [show (Bu.turned l at_ turns).length = m from (Bu.turned_length _ _ _).trans HM.out]
        exact own_more O5.out (by show base ≤ W3.heap.size; omega))
      have TU : Hid (∀ x ∈ Bu.turned l at_ turns, x < 256) := Lib.hid (Bu.turn_u HU.out)
      have hft : ∀ y, gp ≤ y → y ∉ bfoot gs gm rg E := fun y hy hm => by have := hfoot y hm; omega
      refine wpAnyH_ready (rs := [13]) (by kernel_rfl) (by simp) ?_
      refine AllReadyH.cons (o := _) rfl (fun K hK => ?_) AllReadyH.nil
      go_simp
      (go_at_call 26; (with_reducible refine (add_any H5.out (by omega) t1 hlt1 htl1 ⟨⟨(k : Int), up, Bu.turned l at_ turns⟩, g5, c5⟩ m ((Bu.turned_length _ _ _).trans HM.out) PM5.out TU.out (by omega)).mono ?_); rintro e w6 ⟨E1, rfl, h6, f6, ft6, bp6⟩; have BP6 := Lib.hid bp6; have H6 := Lib.hid h6; have F6 := Lib.hid f6; have FT6 := Lib.hid ft6; have RP6 : Hid (RowAt w6 gp _ _) := Lib.hid (f6.row RP5.out (hft gp (Nat.le_refl _))); have RF6 : Hid (RowAt w6 gf _ _) := Lib.hid (f6.row RF5.out (hft gf (by omega))); have R76 : Hid (RowAt w6 g7 _ _) := Lib.hid (f6.row R75.out (hft g7 (by omega))); clear h6 f6 ft6 bp6)
      go_wp2_with fail
      refine hK.out _ _ ?_ (fun hHeld => ?_)
      · exact ⟨H6.out.row.cells 2, RF6.out.cells 2, RP6.out.all, R76.out.all⟩
      clear hK K
      try simp only [Act.put, List.setIfInBounds_toArray, List.set_cons_zero, List.set_cons_succ]
      refine wpAnyH_done (by kernel_rfl) ?_ _
      have FW6 : Hid (Fr (bfoot gs gm rg E) w w6) := Lib.hid ((Fr.of_below _ (B3.out.trans (B5.out.mono B3.out.size))).trans F6.out (fun _ h => .inl h))
      have FT1 : Hid (∀ x, x ∈ bfoot gs gm rg E1 → x ∈ bfoot gs gm rg E ∨ w.heap.size ≤ x) := Lib.hid (fun x hx => by
        have hz := HGP.out
        rcases FT6.out x hx with h | h | h
        · exact .inl h
        · exact .inr (by first | omega | (dsimp only at h; omega))
        · exact .inr (by omega))
      have flt : gf < (w6).heap.size := RF6.out.lt
      have flu : gf < (w6).heap.size + 1 := Nat.lt_succ_of_lt RF6.out.lt
      have f0 : (w6).cell? ⟨gf, 0, none⟩ = some (.bool false) := RF6.out.cells 0
      have fz0 : (w6).frozen? ⟨gf, 0, none⟩ = false := RF6.out.frozen 0
      have f1 : (w6).cell? ⟨gf, 1, none⟩ = some (.bool twice) := RF6.out.cells 1
      have fz1 : (w6).frozen? ⟨gf, 1, none⟩ = false := RF6.out.frozen 1
      have f2 : (w6).cell? ⟨gf, 2, none⟩ = some (.int .u8 (wait : Int)) := RF6.out.cells 2
      have fz2 : (w6).frozen? ⟨gf, 2, none⟩ = false := RF6.out.frozen 2
      have f3 : (w6).cell? ⟨gf, 3, none⟩ = some (.int .u8 (again : Int)) := RF6.out.cells 3
      have fz3 : (w6).frozen? ⟨gf, 3, none⟩ = false := RF6.out.frozen 3
      have f4 : (w6).cell? ⟨gf, 4, none⟩ = some (.int .u16 (at_ : Int)) := RF6.out.cells 4
      have fz4 : (w6).frozen? ⟨gf, 4, none⟩ = false := RF6.out.frozen 4
      have f5 : (w6).cell? ⟨gf, 5, none⟩ = some (.int .u16 (turns : Int)) := RF6.out.cells 5
      have fz5 : (w6).frozen? ⟨gf, 5, none⟩ = false := RF6.out.frozen 5
      cases twice
      · have HSB := Lib.hid (send_one (b := b) (up := up) (l := l) (wait := wait) (again := again) (at_ := at_) HR.out HT1.out HTN.out)
        go_wp2
        go_ret
        exact ⟨E1, by unfold sendE; rw [HR.out]; rfl, by rw [HSB.out]; exact H6.out, FW6.out, FT1.out, Lib.hid ⟨[g5], BP6.out, by simp, fun x hx => by have hz := HGP.out; obtain rfl := List.mem_singleton.1 hx; omega⟩⟩
      · have HSB := Lib.hid (send_two (b := b) (up := up) (l := l) (wait := wait) (again := again) (at_ := at_) HR.out HT1.out HT2.out HTN.out)
        go_upto_region 12 with fail
        have hct6 : w6.cell? ⟨gs, 2, none⟩ = some (.int .i64 (b.time : Int)) := H6.out.row.cells 2
        have hpw6 : gp < w6.heap.size := RP6.out.lt
        have hfw6 : gf < w6.heap.size := RF6.out.lt
        have hgs6 : gs < w6.heap.size := H6.out.row.lt
        have Q6 : Hid (Sq byw w6 w6.heap.size A l) := Lib.hid ((Sq.fr HSQ.out FW6.out (Nat.le_refl _) hA).more FW6.out.size)
        clear hHeld
        refine wp_region_held_drew (S := (fun w' => w'.cell? ⟨gs, 2, none⟩ = some (.int .i64 (b.time : Int)) ∧ w'.cell? ⟨gf, 3, none⟩ = some (.int .u8 (again : Int)) ∧ w'.rangeAt gp 0 (pmV (k : Int) up A m c))) (by kernel_rfl) ?_ (fun hHeld => ?_)
        · exact ⟨hct6, f3, RP6.out.all⟩
        refine takeD (i := 0) (oi := _) (v := ?vv41) (d := some 44) rfl (by kernel_rfl) (by kernel_rfl) (by kernel_rfl) (by kernel_rfl) (fun _ _ _ h => h) (Or.inl ⟨by kernel_rfl, ?_⟩) (by assumption) ?_
        rotate_left 1
        · intro W_ hSw; (try dsimp only at hSw); go_simp; (first | done | with_reducible rfl)
        try simp only [Act.put, List.setIfInBounds_toArray, List.set_cons_zero, List.set_cons_succ]
        refine takeD (i := 1) (oi := _) (v := ?vv42) (d := some 45) rfl (by kernel_rfl) (by kernel_rfl) (by kernel_rfl) (by kernel_rfl) (fun _ _ _ h => h) (Or.inl ⟨by kernel_rfl, ?_⟩) (by assumption) ?_
        rotate_left 1
        · intro W_ hSw; (try dsimp only at hSw); go_simp; (first | done | with_reducible rfl)
        try simp only [Act.put, List.setIfInBounds_toArray, List.set_cons_zero, List.set_cons_succ]
        refine takeD (i := 2) (oi := _) (v := ?vv43) (d := some 46) rfl (by kernel_rfl) (by kernel_rfl) (by kernel_rfl) (by kernel_rfl) (fun _ _ _ h => h) (Or.inl ⟨by kernel_rfl, ?_⟩) (by assumption) ?_
        rotate_left 1
        · intro W_ hSw; (try dsimp only at hSw); go_simp; (first | done | with_reducible rfl)
        try simp only [Act.put, List.setIfInBounds_toArray, List.set_cons_zero, List.set_cons_succ]
        refine takeD (i := 3) (oi := _) (v := ?vv44) (d := some 47) rfl (by kernel_rfl) (by kernel_rfl) (by kernel_rfl) (by kernel_rfl) (fun _ _ _ h => h) (Or.inl ⟨by kernel_rfl, ?_⟩) (by assumption) ?_
        rotate_left 1
        · intro W_ hSw; (try dsimp only at hSw); go_simp; (first | done | with_reducible rfl)
        try simp only [Act.put, List.setIfInBounds_toArray, List.set_cons_zero, List.set_cons_succ]
        refine takeD (i := 4) (oi := _) (v := ?vv45) (d := some 48) rfl (by kernel_rfl) (by kernel_rfl) (by kernel_rfl) (by kernel_rfl) (fun _ _ _ h => h) (Or.inl ⟨by kernel_rfl, ?_⟩) (by assumption) ?_
        rotate_left 1
        · intro W_ hSw; (try dsimp only at hSw); go_simp; (first | done | with_reducible rfl)
        try simp only [Act.put, List.setIfInBounds_toArray, List.set_cons_zero, List.set_cons_succ]
        refine takeD (i := 5) (oi := _) (v := ?vv46) (d := some 49) rfl (by kernel_rfl) (by kernel_rfl) (by kernel_rfl) (by kernel_rfl) (fun _ _ _ h => h) (Or.inl ⟨by kernel_rfl, ?_⟩) (by assumption) ?_
        rotate_left 1
        · intro W_ hSw; (try dsimp only at hSw); go_simp; (first | done | with_reducible rfl)
        try simp only [Act.put, List.setIfInBounds_toArray, List.set_cons_zero, List.set_cons_succ]
        refine takeD (i := 6) (oi := _) (v := ?vv47) (d := some 50) rfl (by kernel_rfl) (by kernel_rfl) (by kernel_rfl) (by kernel_rfl) (fun _ _ _ h => h) (Or.inl ⟨by kernel_rfl, ?_⟩) (by assumption) ?_
        rotate_left 1
        · intro W_ hSw; (try dsimp only at hSw); go_simp; (first | done | with_reducible rfl)
        try simp only [Act.put, List.setIfInBounds_toArray, List.set_cons_zero, List.set_cons_succ]
        refine takeD (i := 7) (oi := _) (v := ?vv48) (d := some 51) rfl (by kernel_rfl) (by kernel_rfl) (by kernel_rfl) (by kernel_rfl) (fun _ _ _ h => h) (Or.inl ⟨by kernel_rfl, ?_⟩) (by assumption) ?_
        rotate_left 1
        · intro W_ hSw; (try dsimp only at hSw); go_simp; (first | done | with_reducible rfl)
        try simp only [Act.put, List.setIfInBounds_toArray, List.set_cons_zero, List.set_cons_succ]
        refine takeD (i := 8) (oi := _) (v := ?vv49) (d := some 52) rfl (by kernel_rfl) (by kernel_rfl) (by kernel_rfl) (by kernel_rfl) (fun _ _ _ h => h) (Or.inl ⟨by kernel_rfl, ?_⟩) (by assumption) ?_
        rotate_left 1
        · intro W_ hSw; (try dsimp only at hSw); go_simp; (first | done | with_reducible rfl)
        try simp only [Act.put, List.setIfInBounds_toArray, List.set_cons_zero, List.set_cons_succ]
        refine takeD (i := 9) (oi := _) (v := ?vv50) (d := some 53) rfl (by kernel_rfl) (by kernel_rfl) (by kernel_rfl) (by kernel_rfl) (fun _ _ _ h => h) (Or.inl ⟨by kernel_rfl, ?_⟩) (by assumption) ?_
        rotate_left 1
        · intro W_ hSw; (try dsimp only at hSw); go_simp; (first | done | with_reducible rfl)
        try simp only [Act.put, List.setIfInBounds_toArray, List.set_cons_zero, List.set_cons_succ]
        refine takeD (i := 10) (oi := _) (v := _) (d := some 54) rfl (by kernel_rfl) (by kernel_rfl) (by kernel_rfl) (by kernel_rfl) (fun _ _ _ h => h) (yieldsIf_load_mid (by kernel_rfl) 36 (.tmp 4) (by kernel_rfl) gp 0 (by kernel_rfl) (pmV (k : Int) up A m c) _ (fun W h => h.2.2) Try.underlying36 rfl size_parc) (by assumption) ?_
        try simp only [Act.put, List.setIfInBounds_toArray, List.set_cons_zero, List.set_cons_succ]
        have b6d : Below w6.heap.size w6 w6.drew := (Below.refl _ _).drew
        refine wpAnyH_ready (rs := [11]) (by kernel_rfl) (by simp) ?_
        refine AllReadyH.cons (o := _) rfl (fun K hK => ?_) AllReadyH.nil
        go_simp
        (go_at_call 28; (with_reducible refine (copied_any (k : Int) up l A m c _ HM.out ((Q6.out.below b6d).more b6d.size) (by omega) hnl).mono ?_); rintro e w7 ⟨A7, c7, rfl, o7, b7⟩; rw [show (Par.mk (k : Int) up l).b.length = m from HM.out] at o7 ⊢; obtain ⟨g8, rfl, hg8, hg8l⟩ := own_somep o7 (by omega); have B7 : Hid (Below w6.heap.size w6 w7) := Lib.hid (b6d.trans b7); have O7 := Lib.hid o7; clear o7 b7)
        go_wp2_with fail
        refine hK.out _ _ ?_ (fun hHeld => ?_)
        · exact ⟨(B7.out.cell (p := ⟨gs, 2, none⟩) hgs6).trans hct6, (B7.out.cell (p := ⟨gf, 3, none⟩) hfw6).trans f3, range_below' RP6.out.all B7.out hpw6⟩
        clear hK K
        try simp only [Act.put, List.setIfInBounds_toArray, List.set_cons_zero, List.set_cons_succ]
        have H7 := Lib.hid (H6.out.to B7.out)
        have RP7 := Lib.hid (RP6.out.to B7.out)
        have RF7 := Lib.hid (RF6.out.to B7.out)
        have hw6z : gp ≤ w6.heap.size := by omega
        have H58 : Hid ([g5, g8].Nodup) := Lib.hid (by have h1 := F6.out.size; have h2 : w6.heap.size ≤ g8 := hg8; simp; omega)
        have hg8w : w6.heap.size ≤ g8 := hg8
        have hbw7 : gp ≤ w7.heap.size := Nat.le_trans hw6z B7.out.size
        have PM7 : Hid (pmOwn w7 base ⟨⟨(k : Int), up, l⟩, g8, c7⟩) := Lib.hid (by
          unfold pmOwn
          dsimp only
          rw [HM.out]
          exact own_more O7.out (by show base ≤ w6.heap.size; omega))
        have hfoot1 : ∀ y, y ∈ bfoot gs gm rg E1 → y < w6.heap.size := fun y hy => (H6.out.foot_ge y hy).2
        have hft1 : ∀ y, gp ≤ y → y < w6.heap.size → (y = gp ∨ y = gf) → y ∉ bfoot gs gm rg E1 := fun y hy hyl hyy hm => by
          rcases FT6.out y hm with h | h | h
          · exact hft y hy h
          · have h' : y = g5 := h; omega
          · have := B5.out.size; omega
        have HLL : Hid ((b.l ++ [(t1, (Par.mk (k : Int) up (Bu.turned l at_ turns)))]).length ≤ 100000) := Lib.hid (by rw [List.length_append]; simp; omega)
        have hlt2b : (Bu.mk b.rtu b.time (b.l ++ [(t1, (Par.mk (k : Int) up (Bu.turned l at_ turns)))])).time < t2 := hlt2
        refine wpAnyH_ready (rs := [12]) (by kernel_rfl) (by simp) ?_
        refine AllReadyH.cons (o := _) rfl (fun K hK => ?_) AllReadyH.nil
        go_simp
        (go_at_call 26; (with_reducible refine (add_any H7.out (by omega) t2 hlt2b htl2 ⟨⟨(k : Int), up, l⟩, g8, c7⟩ m HM.out PM7.out HU.out HLL.out).mono ?_); rintro e w8 ⟨E2, rfl, h8, f8, ft8, bp8⟩; have BP8 := Lib.hid bp8; have H8 := Lib.hid h8; have F8 := Lib.hid f8; have FT8 := Lib.hid ft8; have RP8 : Hid (RowAt w8 gp _ _) := Lib.hid (f8.row RP7.out (hft1 gp (Nat.le_refl _) hpw6 (.inl rfl))); have RF8 : Hid (RowAt w8 gf _ _) := Lib.hid (f8.row RF7.out (hft1 gf (by omega) hfw6 (.inr rfl))); clear h8 f8 ft8 bp8)
        go_wp2_with fail
        refine hK.out _ _ ?_ (fun hHeld => ?_)
        · exact ⟨H8.out.row.cells 2, RF8.out.cells 3, RP8.out.all⟩
        clear hK K
        try simp only [Act.put, List.setIfInBounds_toArray, List.set_cons_zero, List.set_cons_succ]
        refine wpAnyH_done (by kernel_rfl) ?_ _
        have FW8 : Hid (Fr (bfoot gs gm rg E) w w8) := Lib.hid ((FW6.out.trans (Fr.of_below (bfoot gs gm rg E) B7.out) (fun _ h => .inl h)).trans F8.out (fun x h => FT1.out x h))
        have FT2 : Hid (∀ x, x ∈ bfoot gs gm rg E2 → x ∈ bfoot gs gm rg E ∨ w.heap.size ≤ x) := Lib.hid (fun x hx => by
          have hz := HGP.out
          rcases FT8.out x hx with h | h | h
          · exact FT1.out x h
          · have h' : x = g8 := h; exact .inr (by omega)
          · exact .inr (by omega))
        go_wp2
        go_ret
        exact ⟨E2, by unfold sendE; rw [HR.out]; rfl, by rw [HSB.out]; exact H8.out, FW8.out, FT2.out, Lib.hid ⟨[g5, g8], BP8.out.trans (by have h := BP6.out.append_right [g8]; rw [List.append_assoc] at h; exact h), H58.out, fun x hx => by have hz := HGP.out; simp at hx; omega⟩⟩
  · go_wp2
    go_ret
    exact SendB.stay (by unfold sendE; rw [HR.out]; rfl) (by unfold sendB Bu.send; rw [HR.out]; rfl) HW.out B1.out
theorem send_any {w : World} {base gs gm rg rc : Nat} {b : Bu} {E : List En} (h : BusAt w base gs gm rg rc b E) (hb : base ≤ w.heap.size) (s : Int) (up : Bool) (l : List Nat) (A : Option Addr) (m c : Nat) (hm : l.length = m) (hsq : Sq byw w w.heap.size A l) (hnl : A = none → c = 0) (hu : ∀ x ∈ l, x < 256) (hA : 0 < m → ∀ p, A = some p → p.block ∉ bfoot gs gm rg E)
    (lost twice : Bool) (wait again at_ turns : Nat) (hwait : wait < 256) (hagain : again < 256) (hat : at_ < 65536) (htu : turns < 65536) (hln : b.l.length ≤ 90000) (htm : b.time ≤ 100000) :
    Calls Try.prog 16 #[.pointer (some ⟨gs, 0, none⟩), .agg (pmV s up A m c).toArray, .agg (faV lost twice wait again at_ turns).toArray] w (SendP w base gs gm rg rc b E ⟨s, up, l⟩ ⟨lost, twice, wait, again, at_, turns⟩) :=
  (send_more h hb s up l A m c hm hsq hnl hu hA lost twice wait again at_ turns hwait hagain hat htu hln htm).mono fun e w' ⟨E', h1, h2, h3, h4, _⟩ => ⟨E', h1, h2, h3, h4⟩
end Go.Proofs.Ythigkmoilfdciaa
