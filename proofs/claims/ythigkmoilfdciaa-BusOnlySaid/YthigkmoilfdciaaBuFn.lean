/- Layer 11: New, made, right, Waiting, Time, copied. -/
import Derived.Test.YthigkmoilfdciaaBuAt
import Derived.Test.YthigkmoilfdciaaClB
import Derived.Test.YthigkmoilfdciaaHeld
import Derived.Deep.QuietTactic
import Derived.Deep.DeepCutAuto
namespace Go.Proofs.Ythigkmoilfdciaa
open Go.RowKit
set_option linter.unusedVariables false
set_option linter.unusedSimpArgs false
attribute [local go_sem] Later.cell Later.frozen setCell_twice
/-- a bus at hand -/
structure BusAt (w : World) (base gs gm rg rc : Nat) (b : Bu) (E : List En) : Prop where
  row : RowAt w gs 62 [.pointer (some ⟨gs, 0, none⟩), .slice (some ⟨rg, 0, none⟩) b.rtu.length rc, .int .i64 (b.time : Int), .int .i64 (b.l.length : Int), .map (some gm)]
  parts : Parts w base gm rg rc b.rtu E
  is : ∀ e ∈ E, e.l.map Pm.p = b.at_ e.t
  all : ∀ q ∈ b.l, ∃ e ∈ E, e.t = q.1
  late : ∀ q ∈ b.l, b.time < q.1
  ne : ∀ e ∈ E, e.l ≠ []
  gsb : base ≤ gs
section
variable {w w' : World} {base gs gm rg rc : Nat} {b : Bu} {E : List En} {F : List Nat}
theorem BusAt.fr (h : BusAt w base gs gm rg rc b E) (k : Fr F w w') (hF : ∀ x, x ∈ bfoot gs gm rg E → x ∉ F) : BusAt w' base gs gm rg rc b E :=
  ⟨k.row h.row (hF gs (bfoot_mem.2 (.inl rfl))), h.parts.fr k (fun x hx => hF x (by
    rw [bfoot_mem] at hx ⊢
    rcases hx with h | h | h
    · exact .inr (.inl h)
    · exact .inr (.inl h)
    · exact .inr (.inr h))), h.is, h.all, h.late, h.ne, h.gsb⟩
theorem BusAt.to (h : BusAt w base gs gm rg rc b E) (k : Below w.heap.size w w') : BusAt w' base gs gm rg rc b E := h.fr (F := []) (Fr.of_below _ k) (fun _ _ h => by cases h)
/-- the blocks of a bus lie from base on -/
theorem BusAt.foot_ge (h : BusAt w base gs gm rg rc b E) : ∀ x, x ∈ bfoot gs gm rg E → base ≤ x ∧ x < w.heap.size := by
  intro x hx
  rcases bfoot_mem.1 hx with rfl | rfl | rfl | ⟨e, he, rfl | ⟨p, hp, rfl⟩⟩
  · exact ⟨h.gsb, h.row.lt⟩
  · exact ⟨h.parts.gmb, h.parts.map.lt⟩
  · exact h.parts.rtu.lt x rfl
  · exact (h.parts.own e he).lt _ rfl
  · exact (h.parts.byt e he p hp).lt _ rfl
end
theorem info_bool : (Try.prog.info? 4).map (fun i => (i.zero, i.size, i.bytes)) = some (some (.bool false), 1, 1) := by kernel_rfl
set_option maxHeartbeats 400000 in
theorem cloneo_any (p : Addr) (l : List Bool) (n c : Nat) (w : World) (h : Sq Value.bool w w.heap.size (some p) l) (hn : l.length ≤ 1000000) (hm : l.length = n) :
    Calls Try.prog 22 #[.slice (some p) n c] w (Makes Value.bool 4 w l) := by
  subst hm
  obtain ⟨i0, hi, hz0, hz1, hz2⟩ := info_parts info_bool
  have h1 := h.alloc (Nat.le_refl _) (.cells #[] 4)
  have q22 : ∀ (w : World) (a : Option Addr) (n c n' c' : Nat), (binOp .eql 22 (.slice a n c) (.slice none n' c')).run Try.prog w = .ok (.bool a.isNone) w := fun w a n c n' c' => Lib.run_eql_slice_nil w _ _ a n c n' c' Try.underlying22
  have o0 : (w.alloc (.cells #[] 4)).ownsRow w.heap.size 4 1 (.slice (some ⟨w.heap.size, 0, none⟩) ([] : List Bool).length 0) ([] : List Bool).length (([] : List Bool).map Value.bool) := ⟨by simp, .inr ⟨w.heap.size, 0, #[], rfl, Nat.le_refl _, heap_alloc_new w _, Nat.le_refl _, by simp [maxLen], by simp, by simp⟩⟩
  go_enter Try.func22, Try.ntmps22
  go_wp2_with (at_builtin; refine wpList_append_sq (f := Value.bool) _ rfl _ _ 22 rfl (fun _ => rfl) w.heap.size 4 i0 _ _ Try.underlying22 hi hz0 rfl hz1 hz2 (by decide) _ [] rfl o0 w.heap.size (some p) l c _ rfl rfl h1 (by simp) (by simp; omega) (by simp) ?_; intro A' c' w' hown hg hb)
  simp only [List.nil_append] at hown
  have hb2 : Below w.heap.size w w' := (bel_alloc (Below.refl _ _) _).trans hb
  clear hg hb
  go_wp2
  go_ret
  exact Makes.of_own rfl hown hb2
/-- what New hands back, of 1 to 8 links -/
def NewP (rtu : List Bool) (w : World) (e : Ending) (w' : World) : Prop :=
  ∃ gs gm rg rc, e = .returned (.tuple #[.pointer (some ⟨gs, 0, none⟩), .int .i64 0]) ∧ BusAt w' w.heap.size gs gm rg rc ⟨rtu, 0, []⟩ [] ∧ Below w.heap.size w w'
theorem parts_nil {w : World} {base gm rg rc : Nat} {rtu : List Bool} (ho : w.ownsRow base 4 1 (.slice (some ⟨rg, 0, none⟩) rtu.length rc) rtu.length (rtu.map Value.bool)) (hm : EnMap w gm []) (hg : base ≤ gm) : Parts w base gm rg rc rtu [] :=
  ⟨ho, hm, by simp, by simp, by simp, fun i j e e' h => by simp at h, by simp, hg⟩
set_option maxHeartbeats 400000 in
theorem new_no (A : Option Addr) (n c : Nat) (w : World) (hn : n < 1 ∨ 8 < n) : Calls Try.prog 10 #[.slice A n c] w fun e w' => e = .returned (.tuple #[.pointer none, .int .i64 2]) ∧ w = w' := by
  rcases hn with hn | hn
  · obtain rfl : n = 0 := by omega
    go_enter Try.func10, Try.ntmps10
    go_wp2
    go_ret2
    exact ⟨rfl, rfl⟩
  · have h1 : ¬ (n : Int) < 1 := by omega
    have h2 : (8 : Int) < (n : Int) := by omega
    go_enter Try.func10, Try.ntmps10
    go_wp2
    go_ret2
    exact ⟨rfl, rfl⟩
set_option maxHeartbeats 1000000 in
theorem new_yes (A : Option Addr) (rtu : List Bool) (n c : Nat) (w : World) (h : Sq Value.bool w w.heap.size A rtu) (hm : rtu.length = n) (h1 : 1 ≤ n) (h8 : n ≤ 8) : Calls Try.prog 10 #[.slice A n c] w (NewP rtu w) := by
  obtain ⟨p, rfl⟩ : ∃ p, A = some p := by obtain ⟨b, o, hA, _⟩ := h (by omega); exact ⟨_, hA⟩
  have g1 : ¬ (n : Int) < 1 := by omega
  have g2 : ¬ (8 : Int) < (n : Int) := by omega
  have HM := Lib.hid hm
  have H := Lib.hid h
  clear hm h
  go_enter Try.func10, Try.ntmps10
  go_wp2_with fail
  refine (cloneo_any p rtu n c w H.out (by rw [HM.out]; omega) HM.out).mono ?_
  rintro e w1 ⟨A1, c1, rfl, o1, b1⟩
  rw [HM.out] at o1 ⊢
  obtain ⟨rg, rfl, hrb, hrl⟩ := own_somep o1 (by omega)
  have O1 := Lib.hid o1
  have B1 := Lib.hid b1
  have hb1 := b1.size
  have hmm := @run_makeMap Try.prog
  clear o1 b1
  go_wp2
  go_ret2
  have hm1 : EnMap (w1.alloc (.map #[] 0)) w1.heap.size [] := ⟨#[], 0, MapIs.new w1 _ rfl, rfl⟩
  have bW : Below w1.heap.size w1 ((w1.alloc (.map #[] 0)).alloc (.cells #[.pointer (some ⟨w1.heap.size + 1, 0, none⟩), .slice (some ⟨rg, 0, none⟩) n c1, .int .i64 0, .int .i64 0, .map (some w1.heap.size)] 62)) := bel_alloc (bel_alloc (Below.refl _ _) _) _
  refine ⟨w1.heap.size + 1, w1.heap.size, rg, c1, rfl, ⟨by rw [HM.out]; exact RowAt.new' _ _ _ _ (by simp), parts_nil ?_ (hm1.fr (F := []) (Fr.of_below _ (bel_alloc (Below.refl _ _) _)) (by simp)) hb1, by simp, by simp, by simp, by simp, by omega⟩, B1.out.trans (bW.mono hb1)⟩
  rw [HM.out]
  exact own_below O1.out bW
theorem size_bus : (Try.prog.info? 62).map (·.size) = some 5 := by kernel_rfl
theorem ptr_same (a : Addr) (w : World) : (binOp .eql 27 (.pointer (some a)) (.pointer (some a))).run Try.prog w = .ok (.bool true) w := by
  obtain ⟨j, hj, _⟩ := Option.map_eq_some_iff.1 size_bus
  exact run_eql_ptr_same w a Try.underlying27 hj
theorem ptr_nil_some (a : Addr) (w : World) : (binOp .eql 27 (.pointer none) (.pointer (some a))).run Try.prog w = .ok (.bool false) w := by
  have h : ∀ d : Nat, (Op.equalIn (d + 1) 27 (.pointer none) (.pointer (some a))).run Try.prog w = .ok false w := fun d => by
    simp [Op.equalIn, run_underlying Try.underlying27]
  simp only [binOp]
  simp [Op.equal, Op.maxDepth, h 9999]
section
variable {w : World} {base gs gm rg rc : Nat} {b : Bu} {E : List En}
set_option maxHeartbeats 400000 in
theorem made_yes (h : BusAt w base gs gm rg rc b E) : Calls Try.prog 23 #[.pointer (some ⟨gs, 0, none⟩)] w fun e w' => e = .returned (.bool true) ∧ w = w' := by
  have c0 : w.cell? ⟨gs, 0, none⟩ = some (.pointer (some ⟨gs, 0, none⟩)) := h.row.cells 0
  have hp := ptr_same
  clear h
  go_enter Try.func23, Try.ntmps23
  go_wp2
  go_ret
  exact ⟨rfl, rfl⟩
set_option maxHeartbeats 400000 in
theorem made_nil (w : World) : Calls Try.prog 23 #[.pointer none] w fun e w' => e = .returned (.bool false) ∧ w = w' := by
  go_enter Try.func23, Try.ntmps23
  go_wp2
  go_ret
  exact ⟨rfl, rfl⟩
set_option maxHeartbeats 400000 in
theorem made_no (g : Nat) (w : World) (c0 : w.cell? ⟨g, 0, none⟩ = some (.pointer none)) : Calls Try.prog 23 #[.pointer (some ⟨g, 0, none⟩)] w fun e w' => e = .returned (.bool false) ∧ w = w' := by
  have hp := ptr_nil_some
  go_enter Try.func23, Try.ntmps23
  go_wp2
  go_ret
  exact ⟨rfl, rfl⟩
set_option maxHeartbeats 400000 in
theorem waiting_yes (h : BusAt w base gs gm rg rc b E) : Calls Try.prog 17 #[.pointer (some ⟨gs, 0, none⟩)] w fun e w' => e = .returned (.int .i64 (b.l.length : Int)) ∧ w = w' := by
  have c3 : w.cell? ⟨gs, 3, none⟩ = some (.int .i64 (b.l.length : Int)) := h.row.cells 3
  have km := Lib.hid (made_yes h)
  clear h
  go_enter Try.func17, Try.ntmps17
  go_wp2_with fail
  (with_reducible refine km.out.mono ?_)
  rintro e w1 ⟨rfl, rfl⟩
  go_wp2
  go_ret
  exact ⟨rfl, rfl⟩
set_option maxHeartbeats 400000 in
theorem time_yes (h : BusAt w base gs gm rg rc b E) : Calls Try.prog 18 #[.pointer (some ⟨gs, 0, none⟩)] w fun e w' => e = .returned (.int .i64 (b.time : Int)) ∧ w = w' := by
  have c3 : w.cell? ⟨gs, 2, none⟩ = some (.int .i64 (b.time : Int)) := h.row.cells 2
  have km := Lib.hid (made_yes h)
  clear h
  go_enter Try.func18, Try.ntmps18
  go_wp2_with fail
  (with_reducible refine km.out.mono ?_)
  rintro e w1 ⟨rfl, rfl⟩
  go_wp2
  go_ret
  exact ⟨rfl, rfl⟩
end
def ltB (a b : Int) : Bool := decide (a < b)
set_option maxHeartbeats 1000000 in
theorem right_any (gs rg nr rc : Nat) (s : Int) (up : Bool) (A : Option Addr) (m c : Nat) (w : World) (hg : w.cell? ⟨gs, 1, none⟩ = some (.slice (some ⟨rg, 0, none⟩) nr rc)) (r : Bool) (hr : decide (0 ≤ s ∧ s < (nr : Int) ∧ 1 ≤ m ∧ m ≤ 300) = r) :
    Calls Try.prog 25 #[.pointer (some ⟨gs, 0, none⟩), .agg (pmV s up A m c).toArray] w fun e w' => e = .returned (.bool r) ∧ Below w.heap.size w w' := by
  have hgl : gs < w.heap.size := block_lt_of_cell hg
  by_cases h1 : 0 ≤ s
  · have g1 : decide (0 ≤ s) = true := decide_eq_true h1
    by_cases h2 : s < (nr : Int)
    · have g2 : decide (s < (nr : Int)) = true := decide_eq_true h2
      by_cases h3 : 1 ≤ m
      · have h3I : decide ((1 : Int) ≤ (m : Int)) = true := decide_eq_true (by omega)
        by_cases h4 : m ≤ 300
        · have h4I : decide ((m : Int) ≤ 300) = true := decide_eq_true (by omega)
          obtain rfl : r = true := by rw [← hr]; exact decide_eq_true ⟨h1, h2, h3, h4⟩
          clear hr h3 h4
          go_enter Try.func25, Try.ntmps25
          go_wp2
          go_quiet (fail)
          go_wp2
          go_ret
          exact ⟨rfl, bel_drewN (bel_alloc (Below.refl _ _) _) _⟩
        · have h4I : decide ((m : Int) ≤ 300) = false := decide_eq_false (by omega)
          obtain rfl : r = false := by rw [← hr]; exact decide_eq_false (fun h => h4 h.2.2.2)
          clear hr h3 h4
          go_enter Try.func25, Try.ntmps25
          go_wp2
          go_quiet (fail)
          go_wp2
          go_ret
          exact ⟨rfl, bel_drewN (bel_alloc (Below.refl _ _) _) _⟩
      · have h3I : decide ((1 : Int) ≤ (m : Int)) = false := decide_eq_false (by omega)
        obtain rfl : r = false := by rw [← hr]; exact decide_eq_false (fun h => h3 h.2.2.1)
        clear hr h3
        go_enter Try.func25, Try.ntmps25
        go_wp2
        go_quiet (fail)
        go_wp2
        go_ret
        exact ⟨rfl, bel_drewN (bel_alloc (Below.refl _ _) _) _⟩
    · have g2 : decide (s < (nr : Int)) = false := decide_eq_false h2
      obtain rfl : r = false := by rw [← hr]; exact decide_eq_false (fun h => h2 h.2.1)
      clear hr
      go_enter Try.func25, Try.ntmps25
      go_wp2
      go_quiet (fail)
      go_wp2
      go_ret
      exact ⟨rfl, bel_drewN (bel_alloc (Below.refl _ _) _) _⟩
  · have g1 : decide (0 ≤ s) = false := decide_eq_false h1
    obtain rfl : r = false := by rw [← hr]; exact decide_eq_false (fun h => h1 h.1)
    clear hr
    go_enter Try.func25, Try.ntmps25
    go_wp2
    go_quiet (fail)
    go_wp2
    go_ret
    exact ⟨rfl, bel_drewN (bel_alloc (Below.refl _ _) _) _⟩
/-- what copied hands back: the parcel, its bytes own -/
def CopP (p : Par) (w : World) (e : Ending) (w' : World) : Prop :=
  ∃ A c, e = .returned (.agg (pmV p.s p.up A p.b.length c).toArray) ∧ w'.ownsRow w.heap.size 5 1 (.slice A p.b.length c) p.b.length (p.b.map byw) ∧ Below w.heap.size w w'
set_option maxHeartbeats 1000000 in
theorem copied_any (s : Int) (up : Bool) (l : List Nat) (A : Option Addr) (m c : Nat) (w : World) (hm : l.length = m) (h : Sq byw w w.heap.size A l) (hl : m ≤ 1000000) (hnl : A = none → c = 0) :
    Calls Try.prog 28 #[.agg (pmV s up A m c).toArray] w (CopP ⟨s, up, l⟩ w) := by
  have HM := Lib.hid hm
  have H := Lib.hid h
  clear hm h
  go_enter Try.func28, Try.ntmps28
  go_wp2_with fail
  obtain ⟨W, hW⟩ : ∃ W, (w.alloc (.cells (pmV s up A m c).toArray 71)).alloc (.cells #[.int .i64 0, .bool false, .slice none 0 0] 71) = W := ⟨_, rfl⟩
  obtain ⟨g1, hg1⟩ : ∃ g1, w.heap.size = g1 := ⟨_, rfl⟩
  obtain ⟨g2, hg2⟩ : ∃ g2, g1 + 1 = g2 := ⟨_, rfl⟩
  have hne : g1 ≠ g2 := by omega
  have hg12 : g1 ≤ g2 := by omega
  rw [hg1, hg2]
  have R1 : Hid (RowAt W g1 71 (pmV s up A m c)) := Lib.hid (by rw [← hW, ← hg1]; exact (RowAt.new w _ _).alloc _)
  have R2 : Hid (RowAt W g2 71 (pmV 0 false none 0 0)) := Lib.hid (by rw [← hW]; exact RowAt.new' _ _ _ _ (by simp; omega))
  have bW : Below w.heap.size w W := by rw [← hW]; exact bel_alloc (bel_alloc (Below.refl _ _) _) _
  have HG1 := Lib.hid hg1
  rw [hW]
  have hWs := bW.size
  refine (cloneb_any A l m c W ((H.out.below bW).more bW.size) (by rw [HM.out]; exact hl) HM.out hnl).mono ?_
  rintro e w1 ⟨A1, c1, rfl, o1, b1⟩
  rw [HM.out] at o1 ⊢
  have RA := Lib.hid (R1.out.to b1)
  have RB := Lib.hid (R2.out.to b1)
  have O1 := Lib.hid o1
  have B1 := Lib.hid (bW.trans (b1.mono bW.size))
  clear o1 b1 hW hg1 hg2 bW
  have dlt : g1 < (w1).heap.size := RA.out.lt
  have dlu : g1 < (w1).heap.size + 1 := Nat.lt_succ_of_lt RA.out.lt
  have d0 : (w1).cell? ⟨g1, 0, none⟩ = some (.int .i64 s) := RA.out.cells 0
  have dz0 : (w1).frozen? ⟨g1, 0, none⟩ = false := RA.out.frozen 0
  have d1 : (w1).cell? ⟨g1, 1, none⟩ = some (.bool up) := RA.out.cells 1
  have dz1 : (w1).frozen? ⟨g1, 1, none⟩ = false := RA.out.frozen 1
  have d2 : (w1).cell? ⟨g1, 2, none⟩ = some (.slice A m c) := RA.out.cells 2
  have dz2 : (w1).frozen? ⟨g1, 2, none⟩ = false := RA.out.frozen 2
  obtain ⟨w2, hw2⟩ : ∃ w2, w1.setCell ⟨g1, 2, none⟩ (.slice A1 m c1) = w2 := ⟨_, rfl⟩
  go_upto_region 2 with fail
  try rw [hw2]
  have o2 : Only g1 w1 w2 := by rw [← hw2]; exact (Only.refl _ _).set _
  have RC : Hid (RowAt w2 g1 71 (pmV s up A1 m c1)) := Lib.hid (by rw [← hw2]; exact RA.out.set 2 (.slice A1 m c1))
  have RD := Lib.hid (RB.out.only o2 (fun e => hne e.symm))
  have O2 : Hid (w2.ownsRow W.heap.size 5 1 (.slice A1 m c1) m (l.map byw)) := Lib.hid (o2.own O1.out (by have := R1.out.lt; omega))
  have B2 := Lib.hid (B1.out.trans (o2.below (by have := HG1.out; omega)))
  clear hw2 o2 d0 d1 d2 dz0 dz1 dz2 dlt dlu
  have dlt : g1 < (w2).heap.size := RC.out.lt
  have dlu : g1 < (w2).heap.size + 1 := Nat.lt_succ_of_lt RC.out.lt
  have d0 : (w2).cell? ⟨g1, 0, none⟩ = some (.int .i64 s) := RC.out.cells 0
  have dz0 : (w2).frozen? ⟨g1, 0, none⟩ = false := RC.out.frozen 0
  have d1 : (w2).cell? ⟨g1, 1, none⟩ = some (.bool up) := RC.out.cells 1
  have dz1 : (w2).frozen? ⟨g1, 1, none⟩ = false := RC.out.frozen 1
  have d2 : (w2).cell? ⟨g1, 2, none⟩ = some (.slice A1 m c1) := RC.out.cells 2
  have dz2 : (w2).frozen? ⟨g1, 2, none⟩ = false := RC.out.frozen 2
  have flt : g2 < (w2).heap.size := RD.out.lt
  have flu : g2 < (w2).heap.size + 1 := Nat.lt_succ_of_lt RD.out.lt
  have f0 : (w2).cell? ⟨g2, 0, none⟩ = some (.int .i64 0) := RD.out.cells 0
  have fz0 : (w2).frozen? ⟨g2, 0, none⟩ = false := RD.out.frozen 0
  have f1 : (w2).cell? ⟨g2, 1, none⟩ = some (.bool false) := RD.out.cells 1
  have fz1 : (w2).frozen? ⟨g2, 1, none⟩ = false := RD.out.frozen 1
  have f2 : (w2).cell? ⟨g2, 2, none⟩ = some (.slice none 0 0) := RD.out.cells 2
  have fz2 : (w2).frozen? ⟨g2, 2, none⟩ = false := RD.out.frozen 2
  go_wp2
  have o3 := (((Only.refl g2 w2).set (i := 0) (.int .i64 s)).set (i := 1) (.bool up)).set (i := 2) (.slice A1 m c1)
  have hg2W : g2 < W.heap.size := R2.out.lt
  refine bodyPost_ret (v := .agg (pmV s up A1 m c1).toArray) (by simp [results, Try.results28, go_sem, *]) rfl ⟨A1, c1, by rw [HM.out], ?_, B2.out.trans (o3.below (by have := HG1.out; omega))⟩
  rw [HM.out]
  exact own_more (o3.own O2.out hg2W) hWs
end Go.Proofs.Ythigkmoilfdciaa
