/- Layer 11: the walk of BusOnly's closure. -/
import Derived.Test.YthigkmoilfdciaaBuComeA
import Derived.Test.YthigkmoilfdciaaBuTick
namespace Go.Proofs.Ythigkmoilfdciaa
open Go.RowKit
set_option linter.unusedVariables false
set_option linter.unusedSimpArgs false
attribute [local go_sem] Later.cell Later.frozen setCell_twice
theorem rowB_ne {A : Option Addr} {n c : Nat} {p : Addr} (h : some p.block ≠ (Value.slice A n c).ownBlock) : p.block ∉ rowB A := fun hm => by
  obtain ⟨q, rfl, hq⟩ := rowB_mem hm
  exact h (by rw [← hq]; rfl)
theorem recs_own {α : Type} {f : α → List Value} {s B n c e : Nat} {w : World} {A : Option Addr} {l : List α} (hf : ∀ a, (f a).length = s) (hs : 0 < s) (h : w.ownsRow B e s (.slice A n c) n (l.flatMap f)) : Recs f s w w.heap.size A l := Recs.of_own hf hs h
/-- what the closure leaves -/
def MetP (W : World) (rl : List Bool) (B gL : Nat) (A : Option Addr) (n c : Nat) (S : List Snt) (U : List Gh) (e : Ending) (w' : World) : Prop :=
  e = .returned (.bool true) ∧ ∃ S', Alls w' B gL A n c S' ∧ OnI rl S' U ∧ (∀ g, gpar rl S' g = gpar rl S g) ∧ S'.map Snt.p = S.map Snt.p ∧ Fr (rowB A) W w'
set_option maxRecDepth 100000 in
set_option maxHeartbeats 4000000 in
theorem met_any (W : World) {rl : List Bool} {B base gL gR br orr n0 c0 n c n1 c1 : Nat} {A A1 : Option Addr} {S : List Snt} {V U : List Gh} {pl : List Pm} (hA : Alls W B gL A n c S) (hc : Came W base A1 n1 c1 pl) (hR : RowAt W gR 22 [.slice (some ⟨br, orr, none⟩) n0 c0]) (hrt : Sq Value.bool W W.heap.size (some ⟨br, orr, none⟩) rl) (hn0 : rl.length = n0) (hI : OnI rl S (V ++ U)) (hV : pl.map Pm.p = V.map (gpar rl S)) (hgR : gR < B) (hbr : br < B) (hn : n ≤ 120) (hn1 : n1 ≤ 1000) :
    Calls Try.prog 19 #[.slice A1 n1 c1, .pointer (some ⟨gL, 0, none⟩), .pointer (some ⟨gR, 0, none⟩)] W (MetP W rl B gL A n c S U) := by
  have HA := Lib.hid hA
  have HC := Lib.hid hc
  have HR := Lib.hid hR
  have HRT := Lib.hid hrt
  have HN0 := Lib.hid hn0
  have HI := Lib.hid hI
  have HV := Lib.hid hV
  have HVL : Hid (V.length = n1) := Lib.hid (by have := congrArg List.length hV; rw [List.length_map, List.length_map, hc.len] at this; exact this.symm)
  clear hA hc hR hrt hn0 hI hV
  go_enter Try.func19, Try.ntmps19
  go_wp2
  go_loopw [10] (fun i wr => ∃ (k : Nat) (Sk : List Snt), k ≤ n1 ∧ i = .int .i64 (k : Int) ∧ Hid (Alls wr B gL A n c Sk ∧ OnI rl Sk (V.drop k ++ U) ∧ (∀ g, gpar rl Sk g = gpar rl S g) ∧ Sk.map Snt.p = S.map Snt.p) ∧ Hid (Fr (rowB A) W wr)) (fun i _ => n1 - (intOf i).toNat)
  case atStart => exact ⟨0, S, by omega, rfl, Lib.hid ⟨HA.out, HI.out, fun _ => rfl, rfl⟩, Lib.hid (Fr.refl _ _)⟩
  case round =>
    rename World => wr
    obtain ⟨k, Sk, hk, rfl, HS, HF⟩ := hrel
    by_cases hlt : k < n1
    rotate_left
    · obtain rfl : k = n1 := by omega
      go_wp2
      go_ret
      refine ⟨rfl, Sk, HS.out.1, ?_, HS.out.2.2.1, HS.out.2.2.2, HF.out⟩
      have := HS.out.2.1
      rwa [List.drop_of_length_le (by rw [HVL.out]; exact Nat.le_refl _), List.nil_append] at this
    obtain ⟨g, hg⟩ : ∃ g, V[k]? = some g := ⟨_, List.getElem?_eq_getElem (by rw [HVL.out]; exact hlt)⟩
    have hdrop : V.drop k = g :: V.drop (k + 1) := by
      have hkl : k < V.length := by rw [HVL.out]; exact hlt
      rw [List.drop_eq_getElem_cons hkl]
      rw [List.getElem?_eq_getElem hkl] at hg
      rw [Option.some.inj hg]
    have hOI := HS.out.2.1
    rw [hdrop] at hOI
    obtain ⟨x, hx, hlost⟩ := hOI.lt g List.mem_cons_self
    have hok := hOI.ok _ _ hx
    have hCo : wr.ownsRow base 36 3 (.slice A1 n1 c1) n1 (pl.flatMap pmF) := HF.out.own HC.out.own (fun p hp => rowB_ne (own_ne_w HC.out.own HA.out.own (by decide) p hp))
    obtain ⟨b1, o1, pm, rfl, hb1, hpm, hcm⟩ := (recs_own (f := pmF) (s := 3) (fun _ => rfl) (by decide) hCo).at_ (j := k) (by rw [HC.out.len]; exact hlt)
    have hpp : pm.p = gpar rl Sk g := by
      have h9 := congrArg (fun l => l[k]?) HV.out
      simp only [List.getElem?_map, hpm, hg, Option.map_some] at h9
      rw [HS.out.2.2.1]
      exact Option.some.inj h9
    rw [gpar_at hx] at hpp
    have hpo : wr.ownsRow base 5 1 (.slice (some ⟨pm.g, 0, none⟩) pm.p.b.length pm.c) pm.p.b.length (pm.p.b.map byw) := HF.out.own (HC.out.byt pm (List.mem_of_getElem? hpm)) (fun p hp => rowB_ne (own_ne_w (HC.out.byt pm (List.mem_of_getElem? hpm)) HA.out.own (by decide) p hp))
    obtain ⟨⟨ps, pu, pb⟩, pg, pc⟩ := pm
    injection hpp with e1 e2 e3
    dsimp only at e1 e2 e3 hpo
    subst e1 e2
    obtain ⟨⟨⟨s, up, l⟩, XA, xc⟩, ⟨lost, twice, wait, again, at_, turns⟩, came, wrong⟩ := x
    dsimp only at hlost hok e3
    obtain rfl : lost = false := hlost
    obtain ⟨ns, rfl⟩ : ∃ ns : Nat, s = (ns : Int) := ⟨s.toNat, by have := hok.s0; dsimp only at this; omega⟩
    have hnsl : ns < n0 := by have := hok.s1; rw [HN0.out] at this; dsimp only at this; omega
    have hpbl : pb.length = l.length := by rw [e3]; exact gbytes_len _ _ _
    have hpbu : ∀ y ∈ pb, y < 256 := by rw [e3]; exact gbytes_u hok _
    have hpbn : pb.getD 0 0 * 256 + pb.getD 1 0 = g.j := by rw [e3]; exact gbytes_num hok _
    obtain ⟨nb, hnb⟩ : ∃ nb, l.length = nb := ⟨_, rfl⟩
    rw [hnb] at hpbl
    have hnb2 : 2 ≤ nb := by rw [← hnb]; exact hok.l2
    have hnb3 : nb ≤ 300 := by rw [← hnb]; exact hok.l3
    rw [hpbl] at hpo
    have hjS : g.j < n := by rw [← HS.out.1.len]; exact (List.getElem?_eq_some_iff.1 hx).1
    obtain ⟨gA, rfl⟩ : ∃ gA, A = some ⟨gA, 0, none⟩ := by
      cases hAq : A with
      | none => have := (own_nil_s HS.out.1.own).1 hAq; omega
      | some q => exact ⟨q.block, by rw [← (own_at_s HS.out.1.own q hAq).2.2]⟩
    obtain ⟨j, hj⟩ : ∃ j, g.j = j := ⟨_, rfl⟩
    obtain ⟨y0, hy0⟩ : ∃ y, pb[0]? = some y := ⟨_, List.getElem?_eq_getElem (by omega)⟩
    obtain ⟨y1, hy1⟩ : ∃ y, pb[1]? = some y := ⟨_, List.getElem?_eq_getElem (by omega)⟩
    have hyj : y0 * 256 + y1 = j := by rw [← hj, ← hpbn, List.getD_eq_getElem?_getD, List.getD_eq_getElem?_getD, hy0, hy1]; rfl
    have hy0l : y0 < 256 := hpbu _ (List.mem_of_getElem? hy0)
    have hy1l : y1 < 256 := hpbu _ (List.mem_of_getElem? hy1)
    have SPB : Sq byw wr wr.heap.size (some ⟨pg, 0, none⟩) pb := Sq.of_own hpo
    have hpgl : pg < wr.heap.size := (own_at_s hpo _ rfl).2.1
    have bcell : ∀ (i y : Nat), pb[i]? = some y → wr.cell? ⟨pg, i, none⟩ = some (.int .u8 (y : Int)) := fun i y hy => by
      obtain ⟨b', o', hA', _, hc'⟩ := SPB (by rw [hpbl]; omega)
      obtain ⟨rfl, rfl⟩ : pg = b' ∧ 0 = o' := by
        injection hA' with h1
        injection h1 with h2 h3
        exact ⟨h2, h3⟩
      have := hc' i y hy
      rwa [Nat.zero_add] at this
    have z0 := bcell 0 y0 hy0
    have z1 := bcell 1 y1 hy1
    have d0 : wr.cell? ⟨b1, o1 + k * 3, none⟩ = some (.int .i64 (ns : Int)) := hcm 0 _ rfl
    have d1 : wr.cell? ⟨b1, o1 + k * 3 + 1, none⟩ = some (.bool up) := hcm 1 _ rfl
    have d2 : wr.cell? ⟨b1, o1 + k * 3 + 2, none⟩ = some (.slice (some ⟨pg, 0, none⟩) nb pc) := by have := hcm 2 _ rfl; dsimp only at this; rw [hpbl] at this; exact this
    have hltI : (k : Int) < (n1 : Int) := by omega
    have h0I : (0 : Int) ≤ (k : Int) := by omega
    have HX := Lib.hid hx
    have HOI := Lib.hid hOI
    have HPO := Lib.hid hpo
    have HPB := Lib.hid hpbl
    have HPU := Lib.hid hpbu
    have HE3 := Lib.hid e3
    have HJ := Lib.hid hj
    have HOK := Lib.hid hok
    have HNB := Lib.hid hnb
    have HYJ := Lib.hid hyj
    rw [hj] at hjS
    clear hg hdrop hOI hx hok hCo hpo e3 hpbl hpbu hpbn hnb hj hy0 hy1 hyj SPB bcell hcm hpm
    go_upto_region 4 with fail
    obtain ⟨wa, hwa⟩ : ∃ wa, wr.alloc (.cells #[.int .i64 (ns : Int), .bool up, .slice (some ⟨pg, 0, none⟩) nb pc] 36) = wa := ⟨_, rfl⟩
    obtain ⟨gx, hgx⟩ : ∃ gx, wr.heap.size = gx := ⟨_, rfl⟩
    have bA : Below wr.heap.size wr wa := by rw [← hwa]; exact bel_alloc (Below.refl _ _) _
    have RX : Hid (RowAt wa gx 36 [.int .i64 (ns : Int), .bool up, .slice (some ⟨pg, 0, none⟩) nb pc]) := Lib.hid (by rw [← hwa, ← hgx]; exact RowAt.new _ _ _)
    have hgx' := hgx
    rw [hwa, hgx]
    have BA := Lib.hid bA
    have z0 : wa.cell? ⟨pg, 0, none⟩ = some (.int .u8 (y0 : Int)) := (bA.cell (p := ⟨pg, 0, none⟩) hpgl).trans z0
    have z1 : wa.cell? ⟨pg, 1, none⟩ = some (.int .u8 (y1 : Int)) := (bA.cell (p := ⟨pg, 1, none⟩) hpgl).trans z1
    have hpgl2 : pg < wa.heap.size := Nat.lt_of_lt_of_le hpgl bA.size
    have y2 : wa.cell? ⟨gx, 2, none⟩ = some (.slice (some ⟨pg, 0, none⟩) nb pc) := RX.out.cells 2
    have lx := RX.out.lt
    have g2 : decide ((nb : Int) < 2) = false := decide_eq_false (by omega)
    obtain ⟨q, hq⟩ : ∃ q, y0 * 256 = q := ⟨_, rfl⟩
    have m0 : IntKind.i64.wrap (y0 : Int) = (y0 : Int) := IntWalk.i64_in _ (by omega)
    have m0' : IntKind.i64.wrap (y1 : Int) = (y1 : Int) := IntWalk.i64_in _ (by omega)
    have m1 : (y0 : Int) * 256 = (q : Int) := by omega
    have m2 : IntKind.i64.wrap (q : Int) = (q : Int) := IntWalk.i64_in _ (by omega)
    have m3 : (q : Int) + (y1 : Int) = (j : Int) := by have := HYJ.out; omega
    have m4 : IntKind.i64.wrap (j : Int) = (j : Int) := IntWalk.i64_in _ (by omega)
    have l0 : (0 : Int) < (nb : Int) := by omega
    have l1 : (1 : Int) < (nb : Int) := by omega
    clear hwa hgx bA d0 d1 d2 hltI hq
    go_upto_region 6 with fail
    go_quiet (fail)
    obtain ⟨wy, hwy⟩ : ∃ wy, wa.drewN nq = wy := ⟨_, rfl⟩
    try rw [hwy]
    have hby : Below wa.heap.size wa wy := by rw [← hwy]; exact bel_drewN (Below.refl _ _) _
    have HBY : Hid (Below wr.heap.size wr wy) := Lib.hid (BA.out.trans (hby.mono BA.out.size))
    replace RX := Lib.hid (RX.out.to hby)
    clear hwy hby z0 z1 y2 m0 m0' m1 m2 m3 l0 l1 lx g2 hpgl2 BA
    have SY := Lib.hid (HS.out.1.to HBY.out)
    have RY : Hid (RowAt wy gR 22 [.slice (some ⟨br, orr, none⟩) n0 c0]) := Lib.hid ((HF.out.row HR.out (fun hm => by
      obtain ⟨qq, hq1, hq2⟩ := rowB_mem hm
      have h9 := (own_at_s HA.out.own qq hq1).1
      omega)).to HBY.out)
    have x0 : wy.cell? ⟨gL, 0, none⟩ = some (.slice (some ⟨gA, 0, none⟩) n c) := SY.out.var.cells 0
    have x1 : wy.cell? ⟨gx, 0, none⟩ = some (.int .i64 (ns : Int)) := RX.out.cells 0
    have x2 : wy.cell? ⟨gx, 1, none⟩ = some (.bool up) := RX.out.cells 1
    have x3 : wy.cell? ⟨gx, 2, none⟩ = some (.slice (some ⟨pg, 0, none⟩) nb pc) := RX.out.cells 2
    have x4 : wy.cell? ⟨gR, 0, none⟩ = some (.slice (some ⟨br, orr, none⟩) n0 c0) := RY.out.cells 0
    have gjn : decide (n ≤ j) = false := decide_eq_false (by omega)
    obtain ⟨j1, hj1⟩ : ∃ j1, j + 1 = j1 := ⟨_, rfl⟩
    have n1_ : (j : Int) + 1 = (j1 : Int) := by omega
    have n2_ : IntKind.i64.wrap (j1 : Int) = (j1 : Int) := IntWalk.i64_in _ (by omega)
    have hnc : n ≤ c := (own_nil_s SY.out.own).2.1
    have hcj1 : 1 ≤ c - j := by omega
    have hgxA : gA < gx := by rw [← hgx']; exact (own_at_s HS.out.1.own _ rfl).2.1
    have hgxl : gx < wy.heap.size := RX.out.lt
    have hgAB : B ≤ gA := (own_at_s HS.out.1.own _ rfl).1
    have hgLB : gL < B := SY.out.gl
    have HCALL : Hid (∀ w, Below wy.heap.size wy w → Calls Try.prog 20 #[.slice (some ⟨gA, j * 11, none⟩) 1 (c - j), .agg (pmV (ns : Int) up (some ⟨pg, 0, none⟩) nb pc).toArray, .slice (some ⟨br, orr, none⟩) n0 c0] w (ComeAt w rl B gL gA n c Sk (V.drop (k + 1) ++ U))) := Lib.hid fun w hw => by
      have hRT : Sq Value.bool wr wr.heap.size (some ⟨br, orr, none⟩) rl := HRT.out.fr' HF.out (fun _ p hp hm => by
        injection hp with hp
        subst hp
        obtain ⟨qq, hq1, hq2⟩ := rowB_mem hm
        have h9 := (own_at_s HA.out.own qq hq1).1
        dsimp only at hq2
        omega)
      exact comes_at w (c - j) (SY.out.to hw) HOI.out HX.out (((hRT.below HBY.out).more HBY.out.size).below hw |>.more hw.size) HN0.out HE3.out (Sq.of_own (f := byw) (by rw [← HPB.out] at HPO; exact own_below (own_below HPO.out HBY.out) hw)) rfl rfl HNB.out (by rw [HJ.out]) hcj1
    have hjc : j1 ≤ c := by omega
    have hjj : j ≤ j1 := by omega
    have hcj : ¬ c = j := by omega
    have hd1 : j1 - j = 1 := by omega
    go_upto_region 7 with fail
    refine wp_region_held_drew (S := (fun w' => w'.cell? ⟨gL, 0, none⟩ = some (.slice (some ⟨gA, 0, none⟩) n c) ∧ w'.cell? ⟨gx, 0, none⟩ = some (.int .i64 (ns : Int)) ∧ w'.cell? ⟨gx, 1, none⟩ = some (.bool up) ∧ w'.cell? ⟨gx, 2, none⟩ = some (.slice (some ⟨pg, 0, none⟩) nb pc) ∧ w'.cell? ⟨gR, 0, none⟩ = some (.slice (some ⟨br, orr, none⟩) n0 c0))) (by kernel_rfl) ?_ (fun hHeld => ?_)
    · exact ⟨x0, x1, x2, x3, x4⟩
    refine takeD (i := 0) (oi := _) (v := ?vv1) (d := some 30) rfl (by kernel_rfl) (by kernel_rfl) (by kernel_rfl) (by kernel_rfl) (fun _ _ _ h => h) (Or.inl ⟨by kernel_rfl, ?_⟩) (by assumption) ?_
    rotate_left 1
    · intro W_ hSw; (try dsimp only at hSw); go_simp; (first | done | with_reducible rfl)
    try simp only [Act.put, List.setIfInBounds_toArray, List.set_cons_zero, List.set_cons_succ]
    refine takeD (i := 1) (oi := _) (v := ?vv2) (d := some 31) rfl (by kernel_rfl) (by kernel_rfl) (by kernel_rfl) (by kernel_rfl) (fun _ _ _ h => h) (Or.inl ⟨by kernel_rfl, ?_⟩) (by assumption) ?_
    rotate_left 1
    · intro W_ hSw; (try dsimp only at hSw); go_simp; (first | done | with_reducible rfl)
    try simp only [Act.put, List.setIfInBounds_toArray, List.set_cons_zero, List.set_cons_succ]
    refine takeD (i := 2) (oi := _) (v := ?vv3) (d := some 32) rfl (by kernel_rfl) (by kernel_rfl) (by kernel_rfl) (by kernel_rfl) (fun _ _ _ h => h) (Or.inl ⟨by kernel_rfl, ?_⟩) (by assumption) ?_
    rotate_left 1
    · intro W_ hSw; (try dsimp only at hSw); go_simp; (first | done | with_reducible rfl)
    try simp only [Act.put, List.setIfInBounds_toArray, List.set_cons_zero, List.set_cons_succ]
    refine takeD (i := 3) (oi := _) (v := ?vv4) (d := some 33) rfl (by kernel_rfl) (by kernel_rfl) (by kernel_rfl) (by kernel_rfl) (fun _ _ _ h => h) (Or.inl ⟨by kernel_rfl, ?_⟩) (by assumption) ?_
    rotate_left 1
    · intro W_ hSw; (try dsimp only at hSw); go_simp; (first | done | with_reducible rfl)
    try simp only [Act.put, List.setIfInBounds_toArray, List.set_cons_zero, List.set_cons_succ]
    refine takeD (i := 4) (oi := _) (v := ?vv5) (d := some 34) rfl (by kernel_rfl) (by kernel_rfl) (by kernel_rfl) (by kernel_rfl) (fun _ _ _ h => h) (Or.inl ⟨by kernel_rfl, ?_⟩) (by assumption) ?_
    rotate_left 1
    · intro W_ hSw; (try dsimp only at hSw); go_simp; (first | done | with_reducible rfl)
    try simp only [Act.put, List.setIfInBounds_toArray, List.set_cons_zero, List.set_cons_succ]
    refine takeD (i := 5) (oi := _) (v := ?vv6) (d := some 35) rfl (by kernel_rfl) (by kernel_rfl) (by kernel_rfl) (by kernel_rfl) (fun _ _ _ h => h) (Or.inl ⟨by kernel_rfl, ?_⟩) (by assumption) ?_
    rotate_left 1
    · intro W_ hSw; (try dsimp only at hSw); go_simp; (first | done | with_reducible rfl)
    try simp only [Act.put, List.setIfInBounds_toArray, List.set_cons_zero, List.set_cons_succ]
    refine takeD (i := 6) (oi := _) (v := ?vv7) (d := some 36) rfl (by kernel_rfl) (by kernel_rfl) (by kernel_rfl) (by kernel_rfl) (fun _ _ _ h => h) (Or.inl ⟨by kernel_rfl, ?_⟩) (by assumption) ?_
    rotate_left 1
    · intro W_ hSw; (try dsimp only at hSw); go_simp; (first | done | with_reducible rfl)
    try simp only [Act.put, List.setIfInBounds_toArray, List.set_cons_zero, List.set_cons_succ]
    refine takeD (i := 7) (oi := _) (v := ?vv8) (d := some 37) rfl (by kernel_rfl) (by kernel_rfl) (by kernel_rfl) (by kernel_rfl) (fun _ _ _ h => h) (Or.inl ⟨by kernel_rfl, ?_⟩) (by assumption) ?_
    rotate_left 1
    · intro W_ hSw; (try dsimp only at hSw); go_simp; (first | done | with_reducible rfl)
    try simp only [Act.put, List.setIfInBounds_toArray, List.set_cons_zero, List.set_cons_succ]
    refine takeD (i := 8) (oi := _) (v := ?vv9) (d := some 38) rfl (by kernel_rfl) (by kernel_rfl) (by kernel_rfl) (by kernel_rfl) (fun _ _ _ h => h) (Or.inl ⟨by kernel_rfl, ?_⟩) (by assumption) ?_
    rotate_left 1
    · intro W_ hSw; (try dsimp only at hSw); go_simp; (first | done | with_reducible rfl)
    try simp only [Act.put, List.setIfInBounds_toArray, List.set_cons_zero, List.set_cons_succ]
    refine takeD (i := 9) (oi := _) (v := ?vv10) (d := some 39) rfl (by kernel_rfl) (by kernel_rfl) (by kernel_rfl) (by kernel_rfl) (fun _ _ _ h => h) (Or.inl ⟨by kernel_rfl, ?_⟩) (by assumption) ?_
    rotate_left 1
    · intro W_ hSw; (try dsimp only at hSw); go_simp; (first | done | with_reducible rfl)
    try simp only [Act.put, List.setIfInBounds_toArray, List.set_cons_zero, List.set_cons_succ]
    refine takeD (i := 10) (oi := _) (v := ?vv11) (d := some 40) rfl (by kernel_rfl) (by kernel_rfl) (by kernel_rfl) (by kernel_rfl) (fun _ _ _ h => h) (Or.inl ⟨by kernel_rfl, ?_⟩) (by assumption) ?_
    rotate_left 1
    · intro W_ hSw; (try dsimp only at hSw); go_simp; (first | done | with_reducible rfl)
    try simp only [Act.put, List.setIfInBounds_toArray, List.set_cons_zero, List.set_cons_succ]
    refine takeD (i := 11) (oi := _) (v := ?vv12) (d := some 41) rfl (by kernel_rfl) (by kernel_rfl) (by kernel_rfl) (by kernel_rfl) (fun _ _ _ h => h) (Or.inl ⟨by kernel_rfl, ?_⟩) (by assumption) ?_
    rotate_left 1
    · intro W_ hSw; (try dsimp only at hSw); go_simp; (first | done | with_reducible rfl)
    try simp only [Act.put, List.setIfInBounds_toArray, List.set_cons_zero, List.set_cons_succ]
    have hbd : Below wy.heap.size wy wy.drew := (Below.refl _ _).drew
    refine wpAnyH_ready (rs := [12]) (by kernel_rfl) (by simp) ?_
    refine AllReadyH.cons (o := _) rfl (fun K hK => ?_) AllReadyH.nil
    go_simp
    (go_at_call 20; (with_reducible refine (HCALL.out _ hbd).mono ?_); rintro e_ wc ⟨rfl, S', hS1, hS2, hS3, hS4, hS5⟩; have HS5 : Fr [gA] wy wc := (Fr.of_below [gA] hbd).trans hS5 (fun b hb => .inl hb); have HSY := Lib.hid (And.intro hS1 (And.intro hS2 (And.intro hS3 hS4))))
    go_wp2_with fail
    refine hK.out _ _ ?_ (fun hHeld => ?_)
    · exact ⟨(HSY.out.1.var.cells 0), (HS5.row RX.out (by simp; omega)).cells 0, (HS5.row RX.out (by simp; omega)).cells 1, (HS5.row RX.out (by simp; omega)).cells 2, (HS5.row RY.out (by simp; omega)).cells 0⟩
    clear hK K
    try simp only [Act.put, List.setIfInBounds_toArray, List.set_cons_zero, List.set_cons_succ]
    clear HCALL hS1 hS2 hS3 hS4 hS5
    replace HS5 := Lib.hid HS5
    refine takeD (i := 13) (oi := _) (v := ?vv13) (d := some 43) rfl (by kernel_rfl) (by kernel_rfl) (by kernel_rfl) (by kernel_rfl) (fun _ _ _ h => h) (Or.inl ⟨by kernel_rfl, ?_⟩) (by assumption) ?_
    rotate_left 1
    · intro W_ hSw; (try dsimp only at hSw); go_simp; (first | done | with_reducible rfl)
    try simp only [Act.put, List.setIfInBounds_toArray, List.set_cons_zero, List.set_cons_succ]
    refine takeD (i := 14) (oi := _) (v := ?vv14) (d := some 44) rfl (by kernel_rfl) (by kernel_rfl) (by kernel_rfl) (by kernel_rfl) (fun _ _ _ h => h) (Or.inl ⟨by kernel_rfl, ?_⟩) (by assumption) ?_
    rotate_left 1
    · intro W_ hSw; (try dsimp only at hSw); go_simp; (first | done | with_reducible rfl)
    try simp only [Act.put, List.setIfInBounds_toArray, List.set_cons_zero, List.set_cons_succ]
    refine wpAnyH_done (by kernel_rfl) ?_ _
    go_wp2
    refine ⟨⟨k + 1, S', by omega, by simp, Lib.hid ⟨HSY.out.1, HSY.out.2.1, fun g' => (HSY.out.2.2.1 g').trans (HS.out.2.2.1 g'), HSY.out.2.2.2.trans HS.out.2.2.2⟩, Lib.hid ?_⟩, ?_⟩
    · refine HF.out.trans ((Fr.of_below [gA] HBY.out).trans HS5.out (fun b hb => .inl hb)) (fun b hb => .inl ?_)
      obtain rfl := List.mem_singleton.1 hb
      exact List.mem_cons_self
    · simp only [intOf]
      omega
end Go.Proofs.Ythigkmoilfdciaa
