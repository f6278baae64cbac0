/- The document's answer, layer 10: Open (what Read hands back is asked for: kr). -/
import Derived.Test.YtbokggilfepdhaaRfNv4
import Derived.Test.YtbokggilfepdhaaRfDkA
import Derived.Test.YtbokggilfepdhaaNvOpen
namespace Go.Proofs.Ytbokggilfepdhaa
open Go.RowKit
set_option linter.unusedVariables false
set_option linter.unusedSimpArgs false
attribute [local go_sem] Later.cell Later.frozen setCell_twice
theorem results_cell_tmp2 {P : Program} {fn : Func} {p q r : Tmp} {ty : TypeId} (h : fn.results = #[.cell p ty, .tmp q, .tmp r]) (tmps : Array Value) (w : World) (g : Nat) (t : TypeId) (cs : Array Value) (fr : Nat × Nat) (d : TypeDesc)
    (hp : tmps.getD p undef = .pointer (some ⟨g, 0, none⟩)) (hg : w.heap[g]? = some (.cells cs t fr))
    (hu : P.underlying ty = some d) (hd : (match d with | .struct _ | .array _ _ => true | _ => false) = true) (hi : (P.info? ty).map (·.size) = some cs.size) :
    (results fn tmps).run P w = .ok (.tuple #[.agg cs, tmps.getD q undef, tmps.getD r undef]) w := by
  have hp' : tmps[p]?.getD undef = .pointer (some ⟨g, 0, none⟩) := by simpa using hp
  simp [results, h, hp', asAddr, run_loadVar_row w g t ty cs fr d hg hu hd hi]
def ROpenP (w : World) (A : Option Addr) (r : Dk × List Nr × Int) (e : Ending) (w' : World) : Prop :=
  ∃ (A' : Option Addr) (c' : Nat) (Ar : Option Addr) (m cr : Nat) (rs : List Rc), e = .returned (.tuple #[r.1.R A' c', .slice Ar m cr, .int .i64 r.2.2]) ∧ Rb w' A' c' r.1.l ∧ Below w.heap.size w w' ∧ (A' = A ∨ ∀ p, A' = some p → w.heap.size ≤ p.block)
    ∧ Olist recK w' w.heap.size 34 Ar m cr rs ∧ rs.map Rc.p = r.2.1 ∧ ∀ x ∈ rs, x.Nl ∧ x.In w.heap.size
theorem Rcs.apart_low {w : World} {base g n c : Nat} {e : TypeId} {A : Option Addr} {l : List Rc} (h : Olist recK w base e A n c l) (hi : ∀ x ∈ l, x.In base) (hg : g < base) : recK.Apart g A l :=
  ⟨fun q hq => by have := (own_at_s h.own q hq).1; omega, fun a ha hn q hq => by have := hi a ha q hq; omega⟩
set_option maxRecDepth 100000 in
set_option maxHeartbeats 1000000 in
theorem ropen_go (D : Dk) (A : Option Addr) (c : Nat) (w : World) (hok : D.Ok) (hb : Rb w A c D.l) (kr : ∀ W, Below w.heap.size w W → Calls Try.prog 28 #[.slice A D.l.length c] W (ReadP D.l W)) :
    Calls Try.prog 32 #[D.R A c] w (ROpenP w A D.lopen) := by
  have HB := Lib.hid hb
  have OK := Lib.hid hok
  have hm2 : D.l.length ≤ 262144 := Nat.le_trans hok.room hok.hi
  obtain ⟨m, hm⟩ : ∃ m, D.l.length = m := ⟨_, rfl⟩
  obtain ⟨zl, hzl⟩ : ∃ z, lf D.left = z := ⟨_, rfl⟩
  obtain ⟨G, q, hq⟩ : ∃ G q, Nr.read D.l = (G, q) := ⟨_, _, rfl⟩
  have hqm : q ≤ m := by have := Nr.read_le D.l; rw [hq, hm] at this; exact this
  rw [hm] at kr hm2
  simp only [Dk.R, hm, hzl]
  have HQ := Lib.hid hq
  have KR := Lib.hid kr
  have DM := Lib.hid hm
  have DZ := Lib.hid hzl
  have F0 : Hid (A = A ∨ ∀ p, A = some p → w.heap.size + 1 < p.block) := Lib.hid (.inl rfl)
  clear hb hq kr hm hzl hok
  go_enter Try.func32, Try.ntmps32
  go_wp2_with fail
  obtain ⟨wa, hwa⟩ : ∃ wa, (w.alloc (.cells #[.int .i64 (D.room : Int), .int .i64 (D.safe : Int), .int .i64 zl, .slice A m c, .bool D.off] 67)).alloc (.cells #[.int .i64 0, .int .i64 0, .int .i64 0, .slice none 0 0, .bool false] 67) = wa := ⟨_, rfl⟩
  have RA : Hid (RowAt wa w.heap.size 67 (dC D zl A m c)) := Lib.hid (by rw [← hwa]; exact (RowAt.new w 67 (dC D zl A m c)).alloc _)
  have RZ : Hid (RowAt wa (w.heap.size + 1) 67 rd0) := Lib.hid (by rw [← hwa]; exact RowAt.new' _ (w.heap.size + 1) 67 rd0 (by simp))
  have BE0 : Hid (Below w.heap.size w wa) := Lib.hid (by rw [← hwa]; exact bel_alloc (bel_alloc (Below.refl _ _) _) _)
  have hza : w.heap.size + 1 < wa.heap.size := RZ.out.lt
  rw [hwa]
  clear hwa
  refine (KR.out wa BE0.out).mono ?_
  rintro e w1 ⟨Ar, cr, mr, rs, rfl, ol, hrs, hnl, b1⟩
  rw [HQ.out] at hrs ⊢
  have HRS : Hid (rs.map Rc.p = G) := Lib.hid hrs
  have HNL := Lib.hid hnl
  have hba : w.heap.size ≤ wa.heap.size := by omega
  have AP0 := Lib.hid (Rcs.apart_low ol (fun x hx => (hnl x hx).2) (show w.heap.size < wa.heap.size by omega))
  have AP1 := Lib.hid (Rcs.apart_low ol (fun x hx => (hnl x hx).2) hza)
  have O1 := Lib.hid ol
  have R1 := Lib.hid (RA.out.to b1)
  have Z1 := Lib.hid (RZ.out.to b1)
  have B1 := Lib.hid (BE0.out.trans (b1.mono BE0.out.size))
  have Q1 := Lib.hid (HB.out.to B1.out)
  clear ol hrs hnl b1 RA RZ BE0 KR
  simp only
  have dalt : w.heap.size < (w1).heap.size := R1.out.lt
  have dalu : w.heap.size < (w1).heap.size + 1 := Nat.lt_succ_of_lt R1.out.lt
  have da0 : (w1).cell? ⟨w.heap.size, 0, none⟩ = some (.int .i64 (D.room : Int)) := R1.out.cells 0
  have daz0 : (w1).frozen? ⟨w.heap.size, 0, none⟩ = false := R1.out.frozen 0
  have da1 : (w1).cell? ⟨w.heap.size, 1, none⟩ = some (.int .i64 (D.safe : Int)) := R1.out.cells 1
  have daz1 : (w1).frozen? ⟨w.heap.size, 1, none⟩ = false := R1.out.frozen 1
  have da2 : (w1).cell? ⟨w.heap.size, 2, none⟩ = some (.int .i64 zl) := R1.out.cells 2
  have daz2 : (w1).frozen? ⟨w.heap.size, 2, none⟩ = false := R1.out.frozen 2
  have da3 : (w1).cell? ⟨w.heap.size, 3, none⟩ = some (.slice A m c) := R1.out.cells 3
  have daz3 : (w1).frozen? ⟨w.heap.size, 3, none⟩ = false := R1.out.frozen 3
  have da4 : (w1).cell? ⟨w.heap.size, 4, none⟩ = some (.bool D.off) := R1.out.cells 4
  have daz4 : (w1).frozen? ⟨w.heap.size, 4, none⟩ = false := R1.out.frozen 4
  by_cases hc : q < m
  · have g1 : decide (q < m) = true := decide_eq_true hc
    have g2 : decide ((q : Int) < (m : Int)) = true := decide_eq_true (by omega)
    have kc := rcut_any D A c w1 (q : Int) (by omega) (by omega) OK.out Q1.out
    obtain ⟨D2, E2, hd⟩ : ∃ D2 E2, D.cut (q : Int) = (D2, E2) := ⟨_, _, rfl⟩
    rw [hd] at kc
    simp only [Dk.R, DM.out, DZ.out] at kc
    have HD2 := Lib.hid hd
    clear hd
    go_wp2_with (refine wpList_load_var rfl 67 (.tmp 1) rfl w.heap.size rfl (dC D zl A m c) _ 5 R1.out Try.underlying67 rfl size_rd rfl ?_)
    refine kc.mono ?_
    clear kc
    rintro e wa2 ⟨A2, c2, rfl, rb, bb, fr⟩
    have Qa2 : Hid (Rb wa2 A2 c2 D2.l) := Lib.hid rb
    have hzz := Z1.out.lt
    have F2 : Hid (A2 = A ∨ ∀ p, A2 = some p → w.heap.size + 1 < p.block) := Lib.hid (by
      rcases fr with h | h
      · rcases F0.out with h2 | h2
        · exact .inl (by first | exact h.trans h2 | exact h)
        · exact .inr (fun p hp => h2 p (h.symm.trans hp))
      · exact .inr (fun p hp => by have h1 := h p hp; omega))
    have Ra2 := Lib.hid (R1.out.to bb)
    have Za2 := Lib.hid (Z1.out.to bb)
    have Ba2 := Lib.hid (B1.out.trans (bb.mono B1.out.size))
    have Oa2 := Lib.hid (O1.out.to bb)
    clear rb bb fr hzz
    simp only [Dk.R]
    obtain ⟨m2, hm⟩ : ∃ m2, D2.l.length = m2 := ⟨_, rfl⟩
    obtain ⟨z2, hz⟩ : ∃ z2, lf D2.left = z2 := ⟨_, rfl⟩
    rw [hm, hz]
    have D2M := Lib.hid hm
    have D2Z := Lib.hid hz
    clear hm hz
    have OK2 : Hid D2.Ok := Lib.hid (by have := Dk.cut_ok OK.out (q : Int); rw [HD2.out] at this; exact this)
    by_cases hE2 : E2 = 0
    · subst hE2
      have HLL : Hid (D.lopen = D2.lopen2 G) := Lib.hid (by unfold Dk.lopen; rw [HQ.out, DM.out]; simp only; rw [if_pos hc, HD2.out, if_pos rfl])
      go_wp2_with (first | (refine wpList_store_var rfl 67 (.tmp 1) (.tmp 23) rfl w.heap.size (dC D zl A m c) (dC D2 z2 A2 m2 c2) 5 rfl rfl Ra2.out size_rd rfl rfl (dC_one _ _ _ _ _) ?_; intro w2 r k; have R2 := Lib.hid r; have Z2 := Lib.hid (Za2.out.only k (by omega)); have B2 := Lib.hid (Ba2.out.trans (k.below (Nat.le_refl _))); have O2 := Lib.hid (Oa2.out.moves (Moves.of_only (A := none) k) AP0.out (fun p hp => by cases hp)); have Q2 := Lib.hid (Qa2.out.only k (fun p hp => by rcases F2.out with h | h; have := HB.out.lt p (h.symm.trans hp); omega; have := h p hp; omega)); clear r k) | (refine wpList_load_var rfl 67 (.tmp 1) rfl w.heap.size rfl (dC D2 z2 A2 m2 c2) _ 5 R2.out Try.underlying67 rfl size_rd rfl ?_))
      have kc := rsync_any D2 A2 c2 w2 OK2.out Q2.out
      obtain ⟨D3, E3, hd⟩ : ∃ D3 E3, D2.sync = (D3, E3) := ⟨_, _, rfl⟩
      rw [hd] at kc
      simp only [Dk.R, D2M.out, D2Z.out] at kc
      have HD3 := Lib.hid hd
      clear hd
      refine kc.mono ?_
      clear kc
      rintro e wa3 ⟨A3, c3, rfl, rb, bb, fr⟩
      have Qa3 : Hid (Rb wa3 A3 c3 D3.l) := Lib.hid rb
      have hzz := Z2.out.lt
      have F3 : Hid (A3 = A ∨ ∀ p, A3 = some p → w.heap.size + 1 < p.block) := Lib.hid (by
        rcases fr with h | h
        · rcases F2.out with h2 | h2
          · exact .inl (by first | exact h.trans h2 | exact h)
          · exact .inr (fun p hp => h2 p (h.symm.trans hp))
        · exact .inr (fun p hp => by have h1 := h p hp; omega))
      have Ra3 := Lib.hid (R2.out.to bb)
      have Za3 := Lib.hid (Z2.out.to bb)
      have Ba3 := Lib.hid (B2.out.trans (bb.mono B2.out.size))
      have Oa3 := Lib.hid (O2.out.to bb)
      clear rb bb fr hzz
      simp only [Dk.R]
      obtain ⟨m3, hm⟩ : ∃ m3, D3.l.length = m3 := ⟨_, rfl⟩
      obtain ⟨z3, hz⟩ : ∃ z3, lf D3.left = z3 := ⟨_, rfl⟩
      rw [hm, hz]
      have D3M := Lib.hid hm
      have D3Z := Lib.hid hz
      clear hm hz
      by_cases hE : E3 = 0
      · subst hE
        have HLO : Hid (D.lopen = (D3, G, 0)) := Lib.hid (by rw [HLL.out, Dk.lopen2, HD3.out]; rfl)
        go_wp2_with (first
          | (refine wpList_store_var rfl 67 (.tmp 1) (.tmp 32) rfl w.heap.size (dC D2 z2 A2 m2 c2) (dC D3 z3 A3 m3 c3) 5 rfl rfl Ra3.out size_rd rfl rfl (dC_one _ _ _ _ _) ?_; intro w3 r k; have R3 := Lib.hid r; have Z3 := Lib.hid (Za3.out.only k (by omega)); have B3 := Lib.hid (Ba3.out.trans (k.below (Nat.le_refl _))); have O3 := Lib.hid (Oa3.out.moves (Moves.of_only (A := none) k) AP0.out (fun p hp => by cases hp)); have Q3 := Lib.hid (Qa3.out.only k (fun p hp => by rcases F3.out with h | h; have := HB.out.lt p (h.symm.trans hp); omega; have := h p hp; omega)); clear r k)
          | (refine wpList_load_var rfl 67 (.tmp 1) rfl w.heap.size rfl (dC D3 z3 A3 m3 c3) _ 5 R3.out Try.underlying67 rfl size_rd rfl ?_)
          | (refine wpList_store_var rfl 67 (.tmp 2) (.tmp 38) rfl (w.heap.size + 1) rd0 (dC D3 z3 A3 m3 c3) 5 rfl rfl Z3.out size_rd rfl rfl (dC_one _ _ _ _ _) ?_; intro w9 r9 k9; have R9 := Lib.hid r9; have K9 := Lib.hid k9; clear r9 k9))
        have FG : Hid (∀ p, A3 = some p → p.block ≠ w.heap.size + 1) := Lib.hid (fun p hp => by rcases F3.out with h | h; have := HB.out.lt p (h.symm.trans hp); omega; have := h p hp; omega)
        refine bodyPost_ret (results_cell_tmp2 rfl _ _ (w.heap.size + 1) 67 (dC D3 z3 A3 m3 c3).toArray (0, 0) _ rfl R9.out Try.underlying67 rfl size_rd) rfl ?_
        rw [HLO.out]
        exact ⟨A3, c3, Ar, mr, cr, rs, by rw [← D3M.out, ← D3Z.out]; rfl, Q3.out.only K9.out FG.out, B3.out.trans (K9.out.below (by omega)), F3.out.imp id (fun h p hp => by have := h p hp; omega), ((O3.out.moves (Moves.of_only (A := none) K9.out) AP1.out (fun p hp => by cases hp)).base_le hba), HRS.out, fun x hx => ⟨(HNL.out x hx).1, fun p hp => Nat.le_trans hba ((HNL.out x hx).2 p hp)⟩⟩
      · have hEb : (E3 != 0) = true := by simp [hE]
        have HLO : Hid (D.lopen = (D3, [], E3)) := Lib.hid (by rw [HLL.out, Dk.lopen2, HD3.out]; exact if_neg hE)
        go_wp2_with (first
          | (refine wpList_store_var rfl 67 (.tmp 1) (.tmp 32) rfl w.heap.size (dC D2 z2 A2 m2 c2) (dC D3 z3 A3 m3 c3) 5 rfl rfl Ra3.out size_rd rfl rfl (dC_one _ _ _ _ _) ?_; intro w3 r k; have R3 := Lib.hid r; have Z3 := Lib.hid (Za3.out.only k (by omega)); have B3 := Lib.hid (Ba3.out.trans (k.below (Nat.le_refl _))); have O3 := Lib.hid (Oa3.out.moves (Moves.of_only (A := none) k) AP0.out (fun p hp => by cases hp)); have Q3 := Lib.hid (Qa3.out.only k (fun p hp => by rcases F3.out with h | h; have := HB.out.lt p (h.symm.trans hp); omega; have := h p hp; omega)); clear r k)
          | (refine wpList_load_var rfl 67 (.tmp 1) rfl w.heap.size rfl (dC D3 z3 A3 m3 c3) _ 5 R3.out Try.underlying67 rfl size_rd rfl ?_)
          | (refine wpList_store_var rfl 67 (.tmp 2) (.tmp 36) rfl (w.heap.size + 1) rd0 (dC D3 z3 A3 m3 c3) 5 rfl rfl Z3.out size_rd rfl rfl (dC_one _ _ _ _ _) ?_; intro w9 r9 k9; have R9 := Lib.hid r9; have K9 := Lib.hid k9; clear r9 k9))
        have FG : Hid (∀ p, A3 = some p → p.block ≠ w.heap.size + 1) := Lib.hid (fun p hp => by rcases F3.out with h | h; have := HB.out.lt p (h.symm.trans hp); omega; have := h p hp; omega)
        refine bodyPost_ret (results_cell_tmp2 rfl _ _ (w.heap.size + 1) 67 (dC D3 z3 A3 m3 c3).toArray (0, 0) _ rfl R9.out Try.underlying67 rfl size_rd) rfl ?_
        rw [HLO.out]
        exact ⟨A3, c3, none, 0, 0, [], by rw [← D3M.out, ← D3Z.out]; rfl, Q3.out.only K9.out FG.out, B3.out.trans (K9.out.below (by omega)), F3.out.imp id (fun h p hp => by have := h p hp; omega), Olist.nil _ _ _ _, rfl, by simp⟩
    · have hEb : (E2 != 0) = true := by simp [hE2]
      have HLO : Hid (D.lopen = (D2, [], E2)) := Lib.hid (by unfold Dk.lopen; rw [HQ.out, DM.out]; simp only; rw [if_pos hc, HD2.out, if_neg hE2])
      go_wp2_with (first
        | (refine wpList_store_var rfl 67 (.tmp 1) (.tmp 23) rfl w.heap.size (dC D zl A m c) (dC D2 z2 A2 m2 c2) 5 rfl rfl Ra2.out size_rd rfl rfl (dC_one _ _ _ _ _) ?_; intro w2 r k; have R2 := Lib.hid r; have Z2 := Lib.hid (Za2.out.only k (by omega)); have B2 := Lib.hid (Ba2.out.trans (k.below (Nat.le_refl _))); have O2 := Lib.hid (Oa2.out.moves (Moves.of_only (A := none) k) AP0.out (fun p hp => by cases hp)); have Q2 := Lib.hid (Qa2.out.only k (fun p hp => by rcases F2.out with h | h; have := HB.out.lt p (h.symm.trans hp); omega; have := h p hp; omega)); clear r k)
        | (refine wpList_load_var rfl 67 (.tmp 1) rfl w.heap.size rfl (dC D2 z2 A2 m2 c2) _ 5 R2.out Try.underlying67 rfl size_rd rfl ?_)
        | (refine wpList_store_var rfl 67 (.tmp 2) (.tmp 27) rfl (w.heap.size + 1) rd0 (dC D2 z2 A2 m2 c2) 5 rfl rfl Z2.out size_rd rfl rfl (dC_one _ _ _ _ _) ?_; intro w9 r9 k9; have R9 := Lib.hid r9; have K9 := Lib.hid k9; clear r9 k9))
      have FG : Hid (∀ p, A2 = some p → p.block ≠ w.heap.size + 1) := Lib.hid (fun p hp => by rcases F2.out with h | h; have := HB.out.lt p (h.symm.trans hp); omega; have := h p hp; omega)
      refine bodyPost_ret (results_cell_tmp2 rfl _ _ (w.heap.size + 1) 67 (dC D2 z2 A2 m2 c2).toArray (0, 0) _ rfl R9.out Try.underlying67 rfl size_rd) rfl ?_
      rw [HLO.out]
      exact ⟨A2, c2, none, 0, 0, [], by rw [← D2M.out, ← D2Z.out]; rfl, Q2.out.only K9.out FG.out, B2.out.trans (K9.out.below (by omega)), F2.out.imp id (fun h p hp => by have := h p hp; omega), Olist.nil _ _ _ _, rfl, by simp⟩
  · have g1 : decide (q < m) = false := decide_eq_false hc
    have g2 : decide ((q : Int) < (m : Int)) = false := decide_eq_false (by omega)
    have HLL : Hid (D.lopen = D.lopen2 G) := Lib.hid (by unfold Dk.lopen; rw [HQ.out, DM.out]; simp only; rw [if_neg hc])
    have kc := rsync_any D A c w1 OK.out Q1.out
    obtain ⟨D3, E3, hd⟩ : ∃ D3 E3, D.sync = (D3, E3) := ⟨_, _, rfl⟩
    rw [hd] at kc
    simp only [Dk.R, DM.out, DZ.out] at kc
    have HD3 := Lib.hid hd
    clear hd
    go_wp2_with (refine wpList_load_var rfl 67 (.tmp 1) rfl w.heap.size rfl (dC D zl A m c) _ 5 R1.out Try.underlying67 rfl size_rd rfl ?_)
    refine kc.mono ?_
    clear kc
    rintro e wa3 ⟨A3, c3, rfl, rb, bb, fr⟩
    have Qa3 : Hid (Rb wa3 A3 c3 D3.l) := Lib.hid rb
    have hzz := Z1.out.lt
    have F3 : Hid (A3 = A ∨ ∀ p, A3 = some p → w.heap.size + 1 < p.block) := Lib.hid (by
      rcases fr with h | h
      · rcases F0.out with h2 | h2
        · exact .inl (by first | exact h.trans h2 | exact h)
        · exact .inr (fun p hp => h2 p (h.symm.trans hp))
      · exact .inr (fun p hp => by have h1 := h p hp; omega))
    have Ra3 := Lib.hid (R1.out.to bb)
    have Za3 := Lib.hid (Z1.out.to bb)
    have Ba3 := Lib.hid (B1.out.trans (bb.mono B1.out.size))
    have Oa3 := Lib.hid (O1.out.to bb)
    clear rb bb fr hzz
    simp only [Dk.R]
    obtain ⟨m3, hm⟩ : ∃ m3, D3.l.length = m3 := ⟨_, rfl⟩
    obtain ⟨z3, hz⟩ : ∃ z3, lf D3.left = z3 := ⟨_, rfl⟩
    rw [hm, hz]
    have D3M := Lib.hid hm
    have D3Z := Lib.hid hz
    clear hm hz
    by_cases hE : E3 = 0
    · subst hE
      have HLO : Hid (D.lopen = (D3, G, 0)) := Lib.hid (by rw [HLL.out, Dk.lopen2, HD3.out]; rfl)
      go_wp2_with (first
        | (refine wpList_store_var rfl 67 (.tmp 1) (.tmp 32) rfl w.heap.size (dC D zl A m c) (dC D3 z3 A3 m3 c3) 5 rfl rfl Ra3.out size_rd rfl rfl (dC_one _ _ _ _ _) ?_; intro w3 r k; have R3 := Lib.hid r; have Z3 := Lib.hid (Za3.out.only k (by omega)); have B3 := Lib.hid (Ba3.out.trans (k.below (Nat.le_refl _))); have O3 := Lib.hid (Oa3.out.moves (Moves.of_only (A := none) k) AP0.out (fun p hp => by cases hp)); have Q3 := Lib.hid (Qa3.out.only k (fun p hp => by rcases F3.out with h | h; have := HB.out.lt p (h.symm.trans hp); omega; have := h p hp; omega)); clear r k)
        | (refine wpList_load_var rfl 67 (.tmp 1) rfl w.heap.size rfl (dC D3 z3 A3 m3 c3) _ 5 R3.out Try.underlying67 rfl size_rd rfl ?_)
        | (refine wpList_store_var rfl 67 (.tmp 2) (.tmp 38) rfl (w.heap.size + 1) rd0 (dC D3 z3 A3 m3 c3) 5 rfl rfl Z3.out size_rd rfl rfl (dC_one _ _ _ _ _) ?_; intro w9 r9 k9; have R9 := Lib.hid r9; have K9 := Lib.hid k9; clear r9 k9))
      have FG : Hid (∀ p, A3 = some p → p.block ≠ w.heap.size + 1) := Lib.hid (fun p hp => by rcases F3.out with h | h; have := HB.out.lt p (h.symm.trans hp); omega; have := h p hp; omega)
      refine bodyPost_ret (results_cell_tmp2 rfl _ _ (w.heap.size + 1) 67 (dC D3 z3 A3 m3 c3).toArray (0, 0) _ rfl R9.out Try.underlying67 rfl size_rd) rfl ?_
      rw [HLO.out]
      exact ⟨A3, c3, Ar, mr, cr, rs, by rw [← D3M.out, ← D3Z.out]; rfl, Q3.out.only K9.out FG.out, B3.out.trans (K9.out.below (by omega)), F3.out.imp id (fun h p hp => by have := h p hp; omega), ((O3.out.moves (Moves.of_only (A := none) K9.out) AP1.out (fun p hp => by cases hp)).base_le hba), HRS.out, fun x hx => ⟨(HNL.out x hx).1, fun p hp => Nat.le_trans hba ((HNL.out x hx).2 p hp)⟩⟩
    · have hEb : (E3 != 0) = true := by simp [hE]
      have HLO : Hid (D.lopen = (D3, [], E3)) := Lib.hid (by rw [HLL.out, Dk.lopen2, HD3.out]; exact if_neg hE)
      go_wp2_with (first
        | (refine wpList_store_var rfl 67 (.tmp 1) (.tmp 32) rfl w.heap.size (dC D zl A m c) (dC D3 z3 A3 m3 c3) 5 rfl rfl Ra3.out size_rd rfl rfl (dC_one _ _ _ _ _) ?_; intro w3 r k; have R3 := Lib.hid r; have Z3 := Lib.hid (Za3.out.only k (by omega)); have B3 := Lib.hid (Ba3.out.trans (k.below (Nat.le_refl _))); have O3 := Lib.hid (Oa3.out.moves (Moves.of_only (A := none) k) AP0.out (fun p hp => by cases hp)); have Q3 := Lib.hid (Qa3.out.only k (fun p hp => by rcases F3.out with h | h; have := HB.out.lt p (h.symm.trans hp); omega; have := h p hp; omega)); clear r k)
        | (refine wpList_load_var rfl 67 (.tmp 1) rfl w.heap.size rfl (dC D3 z3 A3 m3 c3) _ 5 R3.out Try.underlying67 rfl size_rd rfl ?_)
        | (refine wpList_store_var rfl 67 (.tmp 2) (.tmp 36) rfl (w.heap.size + 1) rd0 (dC D3 z3 A3 m3 c3) 5 rfl rfl Z3.out size_rd rfl rfl (dC_one _ _ _ _ _) ?_; intro w9 r9 k9; have R9 := Lib.hid r9; have K9 := Lib.hid k9; clear r9 k9))
      have FG : Hid (∀ p, A3 = some p → p.block ≠ w.heap.size + 1) := Lib.hid (fun p hp => by rcases F3.out with h | h; have := HB.out.lt p (h.symm.trans hp); omega; have := h p hp; omega)
      refine bodyPost_ret (results_cell_tmp2 rfl _ _ (w.heap.size + 1) 67 (dC D3 z3 A3 m3 c3).toArray (0, 0) _ rfl R9.out Try.underlying67 rfl size_rd) rfl ?_
      rw [HLO.out]
      exact ⟨A3, c3, none, 0, 0, [], by rw [← D3M.out, ← D3Z.out]; rfl, Q3.out.only K9.out FG.out, B3.out.trans (K9.out.below (by omega)), F3.out.imp id (fun h p hp => by have := h p hp; omega), Olist.nil _ _ _ _, rfl, by simp⟩
end Go.Proofs.Ytbokggilfepdhaa
