/- The walks of agent.New, Same. The walks of agent.there, first, Right. What is done with agents: an operation by value; the walks of command, Does. -/
import Derived.Test.YtajbghjjpebndaaQ24
import Derived.Test.YtajbghjjpebndaaQ14
import Derived.Test.YtajbghjjpebndaaQ05
import Derived.Test.YtajbghjjpebndaaQ26
import Derived.Test.YtajbghjjpebndaaQ16
namespace Go.Proofs.Ytajbghjjpebndaa
set_option maxRecDepth 100000
open Go.RowKit
set_option linter.unusedVariables false
set_option linter.unusedSimpArgs false
attribute [local go_sem] Later.cell Later.frozen setCell_twice
theorem lease_eq (a b c d : Int) (r : Bool) (hr : ((a == c) && (b == d)) = r) (w : World) : (binOp .eql 26 (.agg #[.int .u16 a, .int .i64 b]) (.agg #[.int .u16 c, .int .i64 d])).run Try.prog w = .ok (.bool r) w := by
  subst hr
  go_simp
  by_cases h1 : a = c <;> by_cases h2 : b = d <;> simp [h1, h2]
def newR (bank : List Nat) (tk : Int) : Ag × Int := if bank.length ≠ 64 then (Ag0, 21) else if tk < 1 then (Ag0, 2) else (Ag.new bank tk, 0)
theorem Ag0_is (w : World) (base : Nat) : AgIs none 0 Stv.zero Ag0 w base := ⟨Sq.nil, (fun p hp => by cases hp), fun _ => rfl, by decide, by decide, by decide, by simp [Ag0], Stv.zero_is _ _, by decide, by decide, by decide, by decide, by decide, by decide⟩
theorem AgIs.made {w : World} {B c : Nat} {A : Option Addr} {bank : List Nat} {tk : Int} (o : w.ownsRow B 24 1 (.slice A bank.length c) bank.length (bank.map u16w)) (hs : bank.length ≤ 35184372088832) (hu : ∀ x ∈ bank, x < 65536) (ht : -9223372036854775808 ≤ tk ∧ tk ≤ 9223372036854775807) : AgIs A c Stv.zero (Ag.new bank tk) w B :=
  ⟨Sq.of_own o, fun p hp => (o.lt p.block (by rw [hp]; rfl)).1, (own_nil_c o).1, (own_nil_c o).2, own_cap o, hs, hu, Stv.zero_is _ _, (show (0 : Nat) < 65536 by decide), (show (-9223372036854775808 : Int) ≤ 0 ∧ (0 : Int) ≤ 9223372036854775807 by decide), (show (0 : Nat) < 256 by decide), (show (0 : Nat) < 4294967296 by decide), (show (0 : Nat) < 4294967296 by decide), ht⟩
set_option maxHeartbeats 400000 in
theorem agnew_any (A : Option Addr) (c n : Nat) (bank : List Nat) (tk : Int) (w : World) (h : Sq u16w w w.heap.size A bank) (hn : bank.length = n) (hnl : A = none → c = 0) (hs : bank.length ≤ 35184372088832) (hu : ∀ x ∈ bank, x < 65536) (ht : -9223372036854775808 ≤ tk ∧ tk ≤ 9223372036854775807) :
    Calls Try.prog 26 #[.slice A n c, .int .i64 tk] w (AgEE w (newR bank tk)) := by
  subst hn
  have kc := Lib.hid (fun W (hW : Below w.heap.size w W) => clone_any A bank bank.length c W ((h.below hW).more hW.size) hs rfl hnl)
  have HC0 : Hid ((agC none 0 Stv.zero Ag0).length = 32) := Lib.hid rfl
  obtain ⟨XX, hX⟩ : ∃ XX, newR bank tk = XX := ⟨_, rfl⟩
  rw [hX]
  have HX := Lib.hid hX
  have HU := Lib.hid hu
  clear h hnl hX hu
  go_enter Try.func26, Try.ntmps26
  go_upto_region 1 with fail
  obtain ⟨w0, hw0⟩ : ∃ w_q_, w_q_ = w.alloc (.cells z32 35) := ⟨_, rfl⟩
  rw [← hw0]
  have R2 : Hid (RowAt w0 w.heap.size 35 (agC none 0 Stv.zero Ag0)) := Lib.hid (by have h9 := RowAt.new w 35 (agC none 0 Stv.zero Ag0); rw [z32_eq] at h9; rw [hw0]; exact h9)
  have B0 : Hid (Below w.heap.size w w0) := Lib.hid (by rw [hw0]; exact bel_alloc (Below.refl _ _) _)
  have z0 : w.heap.size + 1 ≤ w0.heap.size := by rw [hw0, World.size_alloc]; exact Nat.le_refl _
  clear hw0
  by_cases h1 : bank.length = 64
  rotate_left
  · have g1 : ((bank.length : Int) != 64) = true := bne_iff_ne.2 (by omega)
    obtain rfl : (Ag0, 21) = XX := by rw [← HX.out]; unfold newR; rw [if_pos h1]
    clear h1 kc
    go_wp2_with (refine wpList_store_var rfl 35 (.tmp 4) (.tmp 9) rfl (w.heap.size) _ (agC none 0 Stv.zero Ag0) 32 rfl rfl R2.out size_32 (by first | rfl | exact HCO.out) HC0.out (agC_one _) ?_; intro w_5 r_5 k_5; have R_5 := Lib.hid r_5; have K_5 := Lib.hid k_5; clear r_5 k_5)
    exact bodyPost_ret (results_cell_tmp rfl _ _ (w.heap.size) 35 _ (0, 0) _ rfl R_5.out Try.underlying35 rfl (by rw [size_32, List.size_toArray, HC0.out])) rfl ⟨none, 0, _, rfl, Ag0_is _ _, K_5.out.to B0.out (Nat.le_refl _)⟩
  have g1 : ((bank.length : Int) != 64) = false := by simp [h1]
  by_cases h2 : tk < 1
  · have g2 : decide (tk < 1) = true := decide_eq_true h2
    obtain rfl : (Ag0, 2) = XX := by rw [← HX.out]; unfold newR; rw [if_neg (fun h => h h1), if_pos h2]
    clear h1 kc h2
    go_wp2_with (refine wpList_store_var rfl 35 (.tmp 4) (.tmp 12) rfl (w.heap.size) _ (agC none 0 Stv.zero Ag0) 32 rfl rfl R2.out size_32 (by first | rfl | exact HCO.out) HC0.out (agC_one _) ?_; intro w_5 r_5 k_5; have R_5 := Lib.hid r_5; have K_5 := Lib.hid k_5; clear r_5 k_5)
    exact bodyPost_ret (results_cell_tmp rfl _ _ (w.heap.size) 35 _ (0, 0) _ rfl R_5.out Try.underlying35 rfl (by rw [size_32, List.size_toArray, HC0.out])) rfl ⟨none, 0, _, rfl, Ag0_is _ _, K_5.out.to B0.out (Nat.le_refl _)⟩
  have g2 : decide (tk < 1) = false := decide_eq_false h2
  obtain rfl : (Ag.new bank tk, 0) = XX := by rw [← HX.out]; unfold newR; rw [if_neg (fun h => h h1), if_neg h2]
  clear h1 h2
  go_wp2_with fail
  with_reducible refine (kc.out _ B0.out).mono ?_
  rintro e1 w1 ⟨A1, c1, rfl, o1, hb1⟩
  replace R2 := Lib.hid (R2.out.to hb1)
  have B1 := Lib.hid (B0.out.trans (hb1.mono B0.out.size))
  have O1 := Lib.hid o1
  have HC : Hid ((agC A1 c1 Stv.zero (Ag.new bank tk)).length = 32) := Lib.hid (agL_length rfl)
  clear hb1 o1 kc
  go_wp2_with (refine wpList_store_var rfl 35 (.tmp 4) (.tmp 16) rfl (w.heap.size) _ (agC A1 c1 Stv.zero (Ag.new bank tk)) 32 rfl rfl R2.out size_32 (by first | rfl | exact HCO.out) HC.out (agC_one _) ?_; intro w_5 r_5 k_5; have R_5 := Lib.hid r_5; have K_5 := Lib.hid k_5; clear r_5 k_5)
  have o5 := K_5.out.own O1.out (by omega)
  have o6 := own_more o5 (show w.heap.size ≤ w0.heap.size by omega)
  exact bodyPost_ret (results_cell_tmp rfl _ _ (w.heap.size) 35 _ (0, 0) _ rfl R_5.out Try.underlying35 rfl (by rw [size_32, List.size_toArray, HC.out])) rfl ⟨A1, c1, _, rfl, AgIs.made o6 hs HU.out ht, K_5.out.to B1.out (by omega)⟩
/-- two agents in variables -/
theorem in_aa (w : World) (C D : List Value) : RowAt ((w.alloc (.cells C.toArray 35)).alloc (.cells D.toArray 35)) w.heap.size 35 C ∧ RowAt ((w.alloc (.cells C.toArray 35)).alloc (.cells D.toArray 35)) (w.heap.size + 1) 35 D ∧ Below w.heap.size w ((w.alloc (.cells C.toArray 35)).alloc (.cells D.toArray 35)) ∧ w.heap.size + 2 ≤ ((w.alloc (.cells C.toArray 35)).alloc (.cells D.toArray 35)).heap.size :=
  ⟨(RowAt.new w _ _).alloc _, new2 _ _ _ _, bel_alloc (bel_alloc (Below.refl _ _) _) _, by rw [World.size_alloc, World.size_alloc]; exact Nat.le_refl _⟩
theorem Ag.ext_iff' {g g' : Ag} : g = g' ↔ g.bank = g'.bank ∧ (g.l.o = g'.l.o ∧ g.l.l = g'.l.l) ∧ g.ph = g'.ph ∧ g.tx = g'.tx ∧ g.la = g'.la ∧ (g.stx = g'.stx ∧ g.S = g'.S) ∧ g.tk = g'.tk := by
  constructor
  · rintro rfl; exact ⟨rfl, ⟨rfl, rfl⟩, rfl, rfl, rfl, ⟨rfl, rfl⟩, rfl⟩
  · obtain ⟨b, ⟨o, l⟩, ph, tx, la, stx, S, tk⟩ := g
    obtain ⟨b', ⟨o', l'⟩, ph', tx', la', stx', S', tk'⟩ := g'
    rintro ⟨rfl, ⟨rfl, rfl⟩, rfl, rfl, rfl, ⟨rfl, rfl⟩, rfl⟩
    rfl
section
variable {A A' : Option Addr} {c c' base base' : Nat} {s s' : Stv} {g g' : Ag} {w : World}
theorem AgIs.lens (h : AgIs A c s g w base) : ∀ p ∈ ssThere g.S, p.2.length ≤ 140737488355328 := by
  rw [← h.st.S, ← Stv.there_S]
  intro p hp
  obtain ⟨k, hk, rfl⟩ := List.mem_map.1 hp
  have hk8 : k < 8 := by have := (List.mem_filter.1 hk).1; simpa using this
  obtain ⟨b, hb⟩ : ∃ b, s.bs[k]? = some b := ⟨_, List.getElem?_eq_getElem (by rw [h.st.ok.lb]; exact hk8)⟩
  rw [List.getD_eq_getElem?_getD, prs_get hb]
  have := h.st.ln b (List.mem_of_getElem? hb)
  show b.ws.length ≤ _
  omega
set_option maxHeartbeats 1000000 in
theorem agsame_any (r : Bool) (w : World) (h : AgIs A c s g w base) (h' : AgIs A' c' s' g' w base') (hr : r = true ↔ g = g') :
    Calls Try.prog 14 #[.agg (agC A c s g).toArray, .agg (agC A' c' s' g').toArray] w fun e w' => e = .returned (.bool r) ∧ Below w.heap.size w w' := by
  obtain ⟨b1, hb1⟩ : ∃ b, decide (g.bank = g'.bank) = b := ⟨_, rfl⟩
  obtain ⟨b2, hb2⟩ : ∃ b, (((g.l.o : Int) == (g'.l.o : Int)) && (g.l.l == g'.l.l)) = b := ⟨_, rfl⟩
  obtain ⟨b3, hb3⟩ : ∃ b, ((g.ph : Int) == (g'.ph : Int)) = b := ⟨_, rfl⟩
  obtain ⟨b4, hb4⟩ : ∃ b, ((g.tx : Int) == (g'.tx : Int)) = b := ⟨_, rfl⟩
  obtain ⟨b5, hb5⟩ : ∃ b, ((g.la : Int) == (g'.la : Int)) = b := ⟨_, rfl⟩
  obtain ⟨b6, hb6⟩ : ∃ b, decide (g.stx = g'.stx ∧ g.S = g'.S) = b := ⟨_, rfl⟩
  obtain ⟨b7, hb7⟩ : ∃ b, (g.tk == g'.tk) = b := ⟨_, rfl⟩
  have hrr : r = (b1 && b2 && b3 && b4 && b5 && b6 && b7) := by
    rw [Bool.eq_iff_iff, hr, Ag.ext_iff', ← hb1, ← hb2, ← hb3, ← hb4, ← hb5, ← hb6, ← hb7]
    simp only [Bool.and_eq_true, decide_eq_true_eq, beq_iff_eq]
    constructor
    · rintro ⟨a1, ⟨a2, a3⟩, a4, a5, a6, a7, a8⟩; exact ⟨⟨⟨⟨⟨⟨a1, by omega, a3⟩, by omega⟩, by omega⟩, by omega⟩, a7⟩, a8⟩
    · rintro ⟨⟨⟨⟨⟨⟨a1, a2, a3⟩, a4⟩, a5⟩, a6⟩, a7⟩, a8⟩; exact ⟨a1, ⟨by omega, a3⟩, by omega, by omega, by omega, a7, a8⟩
  have ke := Lib.hid (fun W (hW : Below w.heap.size w W) => eqlWords_any A A' g.bank g'.bank c c' g.bank.length g'.bank.length b1 W rfl rfl (h.to hW).sq (h'.to hW).sq (by have := h.small; omega) hb1)
  have kl := fun W => lease_eq (g.l.o : Int) g.l.l (g'.l.o : Int) g'.l.l b2 hb2 W
  have ks := Lib.hid (fun W (hW : Below w.heap.size w W) => same_S b6 W (h.st.to hW) (h'.st.to hW) h.lens hb6)
  have HC := Lib.hid h.C32
  have H25 := h.C25
  have H25' := h'.C25
  have HZ : Hid ((Try.prog.info? 33).map (·.size) = some s.C.length) := Lib.hid (by rw [H25]; exact size_25)
  have HZ' : Hid ((Try.prog.info? 33).map (·.size) = some s'.C.length) := Lib.hid (by rw [H25']; exact size_25)
  subst hrr
  clear h h' hr hb1 hb2 hb6
  go_enter Try.func14, Try.ntmps14
  go_upto_region 1 with fail
  obtain ⟨w0, hw0⟩ : ∃ w_q_, w_q_ = (w.alloc (.cells (agC A c s g).toArray 35)).alloc (.cells (agC A' c' s' g').toArray 35) := ⟨_, rfl⟩
  rw [← hw0]
  have hin := in_aa w (agC A c s g) (agC A' c' s' g')
  rw [← hw0] at hin
  obtain ⟨r1, r2, b0, z0⟩ := hin
  have R1 := Lib.hid r1
  have R2 := Lib.hid r2
  have B0 := Lib.hid b0
  clear hw0 r1 r2 b0
  have a0 : w0.cell? ⟨w.heap.size, 0, none⟩ = some (.slice A g.bank.length c) := R1.out.cells 0
  have d0 : w0.cell? ⟨w.heap.size + 1, 0, none⟩ = some (.slice A' g'.bank.length c') := R2.out.cells 0
  go_wp2_with fail
  with_reducible refine (ke.out _ B0.out).mono ?_
  rintro e1 w1 ⟨rfl, hq1⟩
  replace R1 := Lib.hid (R1.out.to hq1)
  replace R2 := Lib.hid (R2.out.to hq1)
  have B1 := Lib.hid (B0.out.trans (hq1.mono B0.out.size))
  clear hq1 a0 d0 ke B0
  have alt : w.heap.size < (w1).heap.size := R1.out.lt
  have alu : w.heap.size < (w1).heap.size + 1 := Nat.lt_succ_of_lt R1.out.lt
  have a0 : (w1).cell? ⟨w.heap.size, 0, none⟩ = some (.slice A g.bank.length c) := R1.out.cells 0
  have az0 : (w1).frozen? ⟨w.heap.size, 0, none⟩ = false := R1.out.frozen 0
  have a1 : (w1).cell? ⟨w.heap.size, 1, none⟩ = some (.int .u16 (g.l.o : Int)) := R1.out.cells 1
  have az1 : (w1).frozen? ⟨w.heap.size, 1, none⟩ = false := R1.out.frozen 1
  have a2 : (w1).cell? ⟨w.heap.size, 2, none⟩ = some (.int .i64 g.l.l) := R1.out.cells 2
  have az2 : (w1).frozen? ⟨w.heap.size, 2, none⟩ = false := R1.out.frozen 2
  have a3 : (w1).cell? ⟨w.heap.size, 3, none⟩ = some (.int .u8 (g.ph : Int)) := R1.out.cells 3
  have az3 : (w1).frozen? ⟨w.heap.size, 3, none⟩ = false := R1.out.frozen 3
  have a4 : (w1).cell? ⟨w.heap.size, 4, none⟩ = some (.int .u32 (g.tx : Int)) := R1.out.cells 4
  have az4 : (w1).frozen? ⟨w.heap.size, 4, none⟩ = false := R1.out.frozen 4
  have a5 : (w1).cell? ⟨w.heap.size, 5, none⟩ = some (.int .u32 (g.la : Int)) := R1.out.cells 5
  have az5 : (w1).frozen? ⟨w.heap.size, 5, none⟩ = false := R1.out.frozen 5
  have dlt : w.heap.size + 1 < (w1).heap.size := R2.out.lt
  have dlu : w.heap.size + 1 < (w1).heap.size + 1 := Nat.lt_succ_of_lt R2.out.lt
  have d0 : (w1).cell? ⟨w.heap.size + 1, 0, none⟩ = some (.slice A' g'.bank.length c') := R2.out.cells 0
  have dz0 : (w1).frozen? ⟨w.heap.size + 1, 0, none⟩ = false := R2.out.frozen 0
  have d1 : (w1).cell? ⟨w.heap.size + 1, 1, none⟩ = some (.int .u16 (g'.l.o : Int)) := R2.out.cells 1
  have dz1 : (w1).frozen? ⟨w.heap.size + 1, 1, none⟩ = false := R2.out.frozen 1
  have d2 : (w1).cell? ⟨w.heap.size + 1, 2, none⟩ = some (.int .i64 g'.l.l) := R2.out.cells 2
  have dz2 : (w1).frozen? ⟨w.heap.size + 1, 2, none⟩ = false := R2.out.frozen 2
  have d3 : (w1).cell? ⟨w.heap.size + 1, 3, none⟩ = some (.int .u8 (g'.ph : Int)) := R2.out.cells 3
  have dz3 : (w1).frozen? ⟨w.heap.size + 1, 3, none⟩ = false := R2.out.frozen 3
  have d4 : (w1).cell? ⟨w.heap.size + 1, 4, none⟩ = some (.int .u32 (g'.tx : Int)) := R2.out.cells 4
  have dz4 : (w1).frozen? ⟨w.heap.size + 1, 4, none⟩ = false := R2.out.frozen 4
  have d5 : (w1).cell? ⟨w.heap.size + 1, 5, none⟩ = some (.int .u32 (g'.la : Int)) := R2.out.cells 5
  have dz5 : (w1).frozen? ⟨w.heap.size + 1, 5, none⟩ = false := R2.out.frozen 5
  cases b1
  · go_wp2
    go_ret
    exact ⟨rfl, B1.out⟩
  cases b2
  · go_wp2
    go_ret
    exact ⟨rfl, B1.out⟩
  cases b3
  · go_wp2
    go_ret
    exact ⟨rfl, B1.out⟩
  cases b4
  · go_wp2
    go_ret
    exact ⟨rfl, B1.out⟩
  cases b5
  · go_wp2
    go_ret
    exact ⟨rfl, B1.out⟩
  have HG := Lib.hid (R1.out.stage H25)
  have HG' := Lib.hid (R2.out.stage H25')
  go_wp2_with (first | (refine wpList_load_mid_g (by kernel_rfl) 33 (.tmp 39) rfl w.heap.size 6 rfl s.C _ HG.out Try.underlying33 rfl HZ.out ?_) | (refine wpList_load_mid_g (by kernel_rfl) 33 (.tmp 41) rfl (w.heap.size + 1) 6 rfl s'.C _ HG'.out Try.underlying33 rfl HZ'.out ?_))
  with_reducible refine (ks.out _ B1.out).mono ?_
  rintro e2 w2 ⟨rfl, hq2⟩
  have a31 : w2.cell? ⟨w.heap.size, 31, none⟩ = some (.int .i64 g.tk) := (R1.out.to hq2).cell (agL_tk H25)
  have d31 : w2.cell? ⟨w.heap.size + 1, 31, none⟩ = some (.int .i64 g'.tk) := (R2.out.to hq2).cell (agL_tk H25')
  replace B1 := Lib.hid (B1.out.trans (hq2.mono B1.out.size))
  clear hq2 ks a0 a1 a2 a3 a4 a5 az0 az1 az2 az3 az4 az5 d0 d1 d2 d3 d4 d5 dz0 dz1 dz2 dz3 dz4 dz5
  cases b6
  · go_wp2
    go_ret
    exact ⟨rfl, B1.out⟩
  cases b7
  · go_wp2
    go_ret
    exact ⟨rfl, B1.out⟩
  · go_wp2
    go_ret
    exact ⟨rfl, B1.out⟩
end
end Go.Proofs.Ytajbghjjpebndaa
namespace Go.Proofs.Ytajbghjjpebndaa
set_option maxRecDepth 100000
open Go.RowKit
set_option linter.unusedVariables false
set_option linter.unusedSimpArgs false
attribute [local go_sem] Later.cell Later.frozen setCell_twice
theorem in_s (w : World) (C : List Value) : RowAt (w.alloc (.cells C.toArray 33)) w.heap.size 33 C ∧ Below w.heap.size w (w.alloc (.cells C.toArray 33)) ∧ w.heap.size + 1 ≤ (w.alloc (.cells C.toArray 33)).heap.size :=
  ⟨RowAt.new w _ _, bel_alloc (Below.refl _ _) _, by rw [World.size_alloc]; exact Nat.le_refl _⟩
set_option maxHeartbeats 400000 in
theorem agthere_any {s : Stv} {base tx : Nat} {S : SS} (w : World) (hs : s.Is w base tx S) :
    Calls Try.prog 44 #[.agg s.C.toArray] w fun e w' => e = .returned (.int .i64 ((ssThere S).length : Int)) ∧ Below w.heap.size w w' := by
  have hT : ssThere S = there s.hs (prs s.bs) 8 := by rw [← hs.S, ← Stv.there_S]; rfl
  have HT := Lib.hid hT
  have hlh := hs.ok.lh
  clear hs hT
  go_enter Try.func44, Try.ntmps44
  go_upto_region 2 with fail
  obtain ⟨w0, hw0⟩ : ∃ w_q_, w_q_ = w.alloc (.cells s.C.toArray 33) := ⟨_, rfl⟩
  rw [← hw0]
  have hin := in_s w s.C
  rw [← hw0] at hin
  obtain ⟨r1, b0, z0⟩ := hin
  have hrng : w0.rangeAt w.heap.size 1 (s.hs.map Value.bool) := by
    have := r1.range 1 8
    rwa [Stv.C_haves hlh] at this
  have hlen8 : (s.hs.map Value.bool).length = 8 := by simp [hlh]
  have HG := Lib.hid hrng
  have HZ : Hid ((Try.prog.info? 28).map (·.size) = some (s.hs.map Value.bool).length) := Lib.hid (by rw [hlen8]; exact size_haves)
  have B0 := Lib.hid b0
  clear hw0 r1 b0 hrng hlen8
  go_wp2_with (refine wpList_load_mid rfl 28 (.tmp 6) rfl w.heap.size 1 rfl (s.hs.map Value.bool) _ HG.out Try.underlying28 rfl HZ.out ?_)
  go_loopw [3, 8, 5] (fun v i _ wr => ∃ k m : Nat, k ≤ 8 ∧ m ≤ k ∧ i = .int .i64 k ∧ v = .int .i64 (m : Int) ∧ Hid ((there s.hs (prs s.bs) k).length = m) ∧ wr = w0) (fun _ i _ _ => 8 - (intOf i).toNat)
  case atStart => exact ⟨0, 0, by omega, by omega, rfl, rfl, Lib.hid rfl, rfl⟩
  case round =>
    obtain ⟨k, m, hk, hm, rfl, rfl, HM, rfl⟩ := hrel
    by_cases hlt : k < 8
    · obtain ⟨y, hy⟩ : ∃ y, s.hs[k]? = some y := ⟨_, List.getElem?_eq_getElem (by rw [hlh]; exact hlt)⟩
      have kx : ∀ w, (Instr.index 28 (.agg (s.hs.map Value.bool).toArray) (.int .i64 (k : Int))).run Try.prog w = .ok (.bool y) w := index_have _ k _ hlt (by simp [hy])
      have hyD : s.hs.getD k false = y := by rw [List.getD_eq_getElem?_getD, hy]; rfl
      have HS := Lib.hid (there_succ s.hs (prs s.bs) k)
      rw [hyD] at HS
      clear hy hyD
      cases y
      · go_wp2
        go_roundw
        case rel => exact ⟨k + 1, m, by omega, by omega, by go_num, rfl, Lib.hid (by rw [HS.out]; exact HM.out), by first | rfl | trivial⟩
        case measure => simp [intOf]; omega
      · go_wp2
        go_roundw
        case rel => exact ⟨k + 1, m + 1, by omega, by omega, by go_num, by go_num, Lib.hid (by rw [HS.out, if_pos rfl, List.length_append, HM.out]; rfl), by first | rfl | trivial⟩
        case measure => simp [intOf]; omega
    · obtain rfl : k = 8 := by omega
      go_wp2
      go_ret
      exact ⟨by rw [HT.out, HM.out]; rfl, B0.out⟩
set_option maxHeartbeats 400000 in
theorem bidx_any (g o n c : Nat) (bs : List Bool) (w : World) (hn : bs.length = n) (hc : ∀ i x, bs[i]? = some x → w.cell? ⟨g, o + i, none⟩ = some (.bool x)) (hnc : n ≤ c) (hcc : c ≤ 8) :
    Calls Try.prog 102 #[.slice (some ⟨g, o, none⟩) n c, .bool false] w (Found (!(bs.all id)) w) := by
  have HN := Lib.hid hn
  have HC := Lib.hid hc
  clear hn hc
  go_enter Try.func102, Try.ntmps102
  go_wp2
  go_loopw [8, 5] (fun i _ wr => ∃ k : Nat, k ≤ n ∧ i = .int .i64 k ∧ Hid ((bs.take k).all id = true) ∧ wr = w) (fun i _ _ => n - (intOf i).toNat)
  case atStart => exact ⟨0, by omega, rfl, Lib.hid rfl, rfl⟩
  case round =>
    rename World => ws
    obtain ⟨k, hk, rfl, HA, rfl⟩ := hrel
    by_cases hlt : k < n
    · obtain ⟨x, hx⟩ : ∃ x, bs[k]? = some x := ⟨_, List.getElem?_eq_getElem (by rw [HN.out]; exact hlt)⟩
      have c0 := HC.out k x hx
      have HX := Lib.hid hx
      have hltI : (k : Int) < (n : Int) := by omega
      have h0I : (0 : Int) ≤ (k : Int) := by omega
      clear hx
      cases x
      · go_wp2
        go_ret
        refine ⟨(k : Int), rfl, ?_, Below.refl _ _⟩
        rw [decide_eq_true (by omega)]
        have : bs.all id = false := List.all_eq_false.2 ⟨false, List.mem_of_getElem? HX.out, by simp⟩
        rw [this]; rfl
      · go_wp2
        go_roundw
        case rel => exact ⟨k + 1, by omega, by go_num, Lib.hid (by rw [List.take_add_one, HX.out, List.all_append, HA.out]; rfl), by first | rfl | trivial⟩
        case measure => simp [intOf]; omega
    · obtain rfl : k = n := by omega
      have hall : bs.all id = true := by have := HA.out; rwa [List.take_of_length_le (by rw [HN.out]; exact Nat.le_refl _)] at this
      have HL := Lib.hid hall
      clear hall
      go_wp2
      go_ret
      exact ⟨-1, rfl, by rw [HL.out]; rfl, Below.refl _ _⟩
set_option maxHeartbeats 400000 in
theorem bcont_any (g o n c : Nat) (bs : List Bool) (r : Bool) (w : World) (hn : bs.length = n) (hc : ∀ i x, bs[i]? = some x → w.cell? ⟨g, o + i, none⟩ = some (.bool x)) (hnc : n ≤ c) (hcc : c ≤ 8) (hr : (!(bs.all id)) = r) :
    Calls Try.prog 79 #[.slice (some ⟨g, o, none⟩) n c, .bool false] w fun e w' => e = .returned (.bool r) ∧ Below w.heap.size w w' := by
  have ki := Lib.hid (bidx_any g o n c bs w hn hc hnc hcc)
  rw [hr] at ki
  clear hn hc hr
  go_enter Try.func79, Try.ntmps79
  go_wp2_with fail
  with_reducible refine (ki.out).mono ?_
  rintro e1 w1 ⟨x, rfl, hx, hb1⟩
  have HX := Lib.hid hx
  clear hx
  go_wp2
  go_ret
  exact ⟨by rw [← HX.out]; first | rfl | simp, hb1⟩
set_option maxHeartbeats 400000 in
theorem agfirst_any {s : Stv} {base tx : Nat} {S : SS} (r : Bool) (w : World) (hs : s.Is w base tx S) (hr : r = true ↔ firsts S) :
    Calls Try.prog 46 #[.agg s.C.toArray] w fun e w' => e = .returned (.bool r) ∧ Below w.heap.size w w' := by
  obtain ⟨n, hn⟩ : ∃ n, (ssThere S).length = n := ⟨_, rfl⟩
  have hn8 : n ≤ 8 := by rw [← hn]; have := ssThere_length S; rw [hs.len] at this; exact this
  have hrr : (!((s.hs.take n).all id)) = !r := by
    congr 1
    rw [Bool.eq_iff_iff, hr, List.all_eq_true]
    unfold firsts
    rw [hn]
    have hk : ∀ i, i < n → (S.getD i none).isSome = s.hs.getD i false := fun i hi => by rw [← hs.S]; exact s.S_isSome (by omega)
    constructor
    · intro h i hi
      rw [hk i hi, List.getD_eq_getElem?_getD, List.getElem?_eq_getElem (by rw [hs.ok.lh]; omega)]
      have := h (s.hs[i]'(by rw [hs.ok.lh]; omega)) (by rw [List.mem_iff_getElem?]; exact ⟨i, by rw [List.getElem?_take, if_pos hi, List.getElem?_eq_getElem (by rw [hs.ok.lh]; omega)]⟩)
      exact this
    · intro h x hx
      obtain ⟨i, hi⟩ := List.mem_iff_getElem?.1 hx
      rw [List.getElem?_take] at hi
      split at hi
      · rename_i hin
        have := h i hin
        rw [hk i hin, List.getD_eq_getElem?_getD, hi] at this
        exact this
      · cases hi
  have kt := Lib.hid (fun W (hW : Below w.heap.size w W) => agthere_any W (hs.to hW))
  rw [hn] at kt
  have HC := Lib.hid hs.C25
  have kb := Lib.hid (fun W (g : Nat) (hc : ∀ i x, (s.hs.take n)[i]? = some x → W.cell? ⟨g, 1 + i, none⟩ = some (.bool x)) => bcont_any g 1 n 8 (s.hs.take n) (!r) W (by rw [List.length_take, hs.ok.lh]; omega) hc hn8 (Nat.le_refl _) hrr)
  clear hs hr hrr hn
  go_enter Try.func46, Try.ntmps46
  go_upto_region 1 with fail
  obtain ⟨w0, hw0⟩ : ∃ w_q_, w_q_ = w.alloc (.cells s.C.toArray 33) := ⟨_, rfl⟩
  rw [← hw0]
  have hin := in_s w s.C
  rw [← hw0] at hin
  obtain ⟨r1, b0, z0⟩ := hin
  have R1 := Lib.hid r1
  have B0 := Lib.hid b0
  clear hw0 r1 b0
  go_wp2_with (refine wpList_load_var rfl 33 (.tmp 1) rfl w.heap.size rfl _ _ 25 R1.out Try.underlying33 rfl size_25 HC.out ?_)
  with_reducible refine (kt.out _ B0.out).mono ?_
  rintro e1 w1 ⟨rfl, hb1⟩
  replace R1 := Lib.hid (R1.out.to hb1)
  have B1 := Lib.hid (B0.out.trans (hb1.mono B0.out.size))
  have ksl : (Instr.sliceAt 28 (.pointer (some ⟨w.heap.size, 1, none⟩)) none (some (.int .i64 (n : Int))) none).run Try.prog w1 = .ok (.slice (some ⟨w.heap.size, 1, none⟩) n 8) w1 := by
    have h8 : Try.prog.arrayLen 28 = 8 := by kernel_rfl
    have hsz : (sizeOf (Try.prog.elem 28)).run Try.prog w1 = .ok 1 w1 := by kernel_rfl
    rw [run_sliceAt_array_h (P := Try.prog) w1 28 ⟨w.heap.size, 1, none⟩ (by kernel_rfl) .i64 (n : Int) (by omega) (by rw [h8]; omega), hsz, h8]
    simp [slicedAt, Addr.add, Result.andThen]
  have kb1 := Lib.hid (kb.out w1 w.heap.size (fun i x hx => R1.out.cell (by
    rw [List.getElem?_take] at hx
    split at hx
    · exact Stv.C_have hx
    · cases hx)))
  clear hb1 B0 kt kb
  go_wp2_with fail
  with_reducible refine (kb1.out).mono ?_
  rintro e2 w2 ⟨rfl, hb2⟩
  have B2 := Lib.hid (B1.out.trans (hb2.mono B1.out.size))
  clear hb2
  go_wp2
  go_ret
  exact ⟨by simp, B2.out⟩
/-- what the program asks of a right agent -/
theorem Ag.right_iff (g : Ag) : g.right ↔ g.bank.length = 64 ∧ 1 ≤ g.tk ∧ Bk.fit (ssThere g.S) = true ∧ (if g.ph = 0 then (g.l.o = 0 ∧ g.l.l = 0) ∧ g.tx = 0 ∧ g.stx = 0 ∧ (ssThere g.S).length = 0 else Ls.free g.l = false ∧ g.la < g.tx ∧ g.stx = g.tx ∧ ((g.ph = 1 ∧ 1 ≤ g.l.l) ∨ (g.ph = 2 ∧ g.l.l = -1 ∧ firsts g.S))) := by
  unfold Ag.right
  have hfr : Ls.free g.l = false ↔ Ls.right g.l = true ∧ g.l.o ≠ 0 := by
    unfold Ls.free Ls.counted
    by_cases h : Ls.right g.l = true
    · rw [if_pos h]; simp [h]
    · rw [if_neg h]; simp [h]
  constructor
  · rintro ⟨h1, h2, h3, h4, h5, h6⟩
    refine ⟨h1, h2, h4, ?_⟩
    rcases h6 with ⟨a, b, c, d⟩ | ⟨a, b, c, d⟩ | ⟨a, b, c, d, e⟩
    · rw [if_pos a]
      have := Ls.right_cases h5
      exact ⟨⟨b, by omega⟩, c, by omega, by rw [d]; rfl⟩
    · rw [if_neg (by omega)]
      exact ⟨hfr.2 ⟨h5, b⟩, d, h3.symm, .inl ⟨a, by omega⟩⟩
    · rw [if_neg (by omega)]
      exact ⟨hfr.2 ⟨h5, b⟩, d, h3.symm, .inr ⟨a, c, e⟩⟩
  · rintro ⟨h1, h2, h4, h6⟩
    by_cases a : g.ph = 0
    · rw [if_pos a] at h6
      obtain ⟨⟨b, b'⟩, c, d, e⟩ := h6
      exact ⟨h1, h2, by omega, h4, Ls.right_of_free b b', .inl ⟨a, b, c, List.eq_nil_of_length_eq_zero e⟩⟩
    · rw [if_neg a] at h6
      obtain ⟨b, c, d, e⟩ := h6
      obtain ⟨b1, b2⟩ := hfr.1 b
      refine ⟨h1, h2, d.symm, h4, b1, ?_⟩
      rcases e with ⟨e, f⟩ | ⟨e, f, q⟩
      · exact .inr (.inl ⟨e, b2, by omega, c⟩)
      · exact .inr (.inr ⟨e, b2, f, c, q⟩)
theorem fit_snoc (l : List Bk.Pr) (p : Bk.Pr) : Bk.fit (l ++ [p]) = (Bk.fit l && Bk.fits p.1 p.2.length) := by
  unfold Bk.fit
  rw [List.all_append]
  simp
theorem there_no {hs : List Bool} {ps : List Bk.Pr} {k : Nat} (hk : k < 8) (h : hs.getD k false = true) (hf : Bk.fits (ps.getD k (0, [])).1 (ps.getD k (0, [])).2.length = false) : Bk.fit (there hs ps 8) = false := by
  cases hq : Bk.fit (there hs ps 8)
  · rfl
  · have := Bk.fit_iff.1 hq (ps.getD k (0, [])) (List.mem_map.2 ⟨k, List.mem_filter.2 ⟨by simpa using hk, h⟩, rfl⟩)
    rw [this] at hf
    cases hf
section
variable {A : Option Addr} {c base : Nat} {s : Stv} {g : Ag}
set_option maxHeartbeats 1000000 in
theorem agright_any (r : Bool) (w : World) (h : AgIs A c s g w base) (hr : r = true ↔ g.right) :
    Calls Try.prog 13 #[.agg (agC A c s g).toArray] w fun e w' => e = .returned (.bool r) ∧ Below w.heap.size w w' := by
  rw [Ag.right_iff] at hr
  obtain ⟨fr, hfr⟩ : ∃ b, Ls.free g.l = b := ⟨_, rfl⟩
  have kfr := Lib.hid (fun W => free_eq g.l fr W h.fit hfr)
  have kth := Lib.hid (fun W (hW : Below w.heap.size w W) => agthere_any W (h.st.to hW))
  obtain ⟨b1, hb1⟩ : ∃ b : Bool, b = true ↔ firsts g.S := by classical exact ⟨decide (firsts g.S), by simp⟩
  have kfi := Lib.hid (fun W (hW : Below w.heap.size w W) => agfirst_any b1 W (h.st.to hW) hb1)
  have kl := fun W => lease_eq (g.l.o : Int) g.l.l 0 0 (decide (g.l.o = 0 ∧ g.l.l = 0)) (by rw [Bool.eq_iff_iff]; simp only [Bool.and_eq_true, beq_iff_eq, decide_eq_true_eq]; omega) W
  rw [hfr, ← hb1] at hr
  obtain ⟨nt, hnt⟩ : ∃ n, (ssThere g.S).length = n := ⟨_, rfl⟩
  rw [hnt] at hr kth
  have hT : ssThere g.S = there s.hs (prs s.bs) 8 := by rw [← h.st.S, ← Stv.there_S]; rfl
  rw [hT] at hr
  have HR := Lib.hid hr
  have IS := Lib.hid h
  have H25 := h.C25
  have hlh := h.st.ok.lh
  have HZ : Hid ((Try.prog.info? 33).map (·.size) = some s.C.length) := Lib.hid (by rw [H25]; exact size_25)
  clear hr h hfr hb1 hT hnt
  go_enter Try.func13, Try.ntmps13
  go_upto_region 1 with fail
  obtain ⟨w0, hw0⟩ : ∃ w_q_, w_q_ = w.alloc (.cells (agC A c s g).toArray 35) := ⟨_, rfl⟩
  rw [← hw0]
  have hin := in_a w (agC A c s g)
  rw [← hw0] at hin
  obtain ⟨r1, b0, z0⟩ := hin
  have R1 := Lib.hid r1
  have B0 := Lib.hid b0
  clear hw0 r1 b0
  have a0 : w0.cell? ⟨w.heap.size, 0, none⟩ = some (.slice A g.bank.length c) := R1.out.cells 0
  have a31 : w0.cell? ⟨w.heap.size, 31, none⟩ = some (.int .i64 g.tk) := R1.out.cell (agL_tk H25)
  by_cases h1 : g.bank.length = 64
  rotate_left
  · have g1 : ((g.bank.length : Int) != 64) = true := bne_iff_ne.2 (by omega)
    obtain rfl : r = false := no_of HR.out (fun q => h1 q.1)
    clear h1
    go_wp2
    go_ret
    exact ⟨rfl, B0.out⟩
  have g1 : ((g.bank.length : Int) != 64) = false := by simp [h1]
  have H64 := Lib.hid h1
  clear h1
  by_cases h2 : g.tk < 1
  · have g2 : decide (g.tk < 1) = true := decide_eq_true h2
    obtain rfl : r = false := no_of HR.out (fun q => by have := q.2.1; omega)
    clear h2
    go_wp2
    go_ret
    exact ⟨rfl, B0.out⟩
  have g2 : decide (g.tk < 1) = false := decide_eq_false h2
  go_upto_region 3 with fail
  have HG : Hid (w0.rangeAt w.heap.size 7 (s.hs.map Value.bool)) := Lib.hid (fun j v hv => by
    have hv' : s.C[1 + j]? = some v := by
      simp only [List.getElem?_map, Option.map_eq_some_iff] at hv
      obtain ⟨x, hx, rfl⟩ := hv
      exact Stv.C_have hx
    rw [show 7 + j = 6 + (1 + j) by omega]
    exact R1.out.cell (agL_st hv'))
  have HZ8 : Hid ((Try.prog.info? 28).map (·.size) = some (s.hs.map Value.bool).length) := Lib.hid (by rw [show (s.hs.map Value.bool).length = 8 by simp [hlh]]; exact size_haves)
  clear a0 a31
  go_wp2_with (refine wpList_load_mid rfl 28 (.tmp 15) rfl w.heap.size 7 rfl (s.hs.map Value.bool) _ HG.out Try.underlying28 rfl HZ8.out ?_)
  go_loopw [17, 3, 4] (fun i _ _ wr => ∃ k : Nat, k ≤ 8 ∧ i = .int .i64 k ∧ Hid (Bk.fit (there s.hs (prs s.bs) k) = true) ∧ Hid (Below w0.heap.size w0 wr)) (fun i _ _ _ => 8 - (intOf i).toNat)
  case atStart => exact ⟨0, by omega, rfl, Lib.hid rfl, Lib.hid (Below.refl _ _)⟩
  case round =>
    rename World => wr
    obtain ⟨k, hk, rfl, HF, BW⟩ := hrel
    replace R1 := Lib.hid (R1.out.to BW.out)
    replace B0 := Lib.hid (B0.out.trans (BW.out.mono B0.out.size))
    by_cases hlt : k < 8
    · obtain ⟨b, hb⟩ : ∃ b, s.bs[k]? = some b := ⟨_, List.getElem?_eq_getElem (by rw [IS.out.st.ok.lb]; exact hlt)⟩
      obtain ⟨y, hy⟩ : ∃ y, s.hs[k]? = some y := ⟨_, List.getElem?_eq_getElem (by rw [hlh]; exact hlt)⟩
      have kx : ∀ w, (Instr.index 28 (.agg (s.hs.map Value.bool).toArray) (.int .i64 (k : Int))).run Try.prog w = .ok (.bool y) w := index_have _ k _ hlt (by simp [hy])
      have hcb := agC_blk (A := A) (c := c) (s := s) (g := g) hlh hb
      have d0 := R1.out.cell hcb.1
      have d1 := R1.out.cell hcb.2
      have hyD : s.hs.getD k false = y := by rw [List.getD_eq_getElem?_getD, hy]; rfl
      have hbD : (prs s.bs).getD k (0, []) = b.pr := by rw [List.getD_eq_getElem?_getD, prs_get hb]; rfl
      have HS := Lib.hid (there_succ s.hs (prs s.bs) k)
      rw [hyD, hbD] at HS
      have hbo := IS.out.st.ok.ok b (List.mem_of_getElem? hb)
      obtain ⟨f, hf⟩ : ∃ f, Bk.fits b.a b.ws.length = f := ⟨_, rfl⟩
      have kb := Lib.hid (fun W => fits_any b.a b.ws.length b.c b.A f W hbo.lo hbo.hi (Nat.le_trans hbo.ln hbo.cap) hf)
      have HNO : Hid (y = true → f = false → Bk.fit (there s.hs (prs s.bs) 8) = false) := Lib.hid (fun e1 e2 => there_no hlt (by rw [hyD, e1]) (by rw [hbD]; show Bk.fits b.a b.ws.length = false; rw [hf, e2]))
      have HFF := Lib.hid hf
      have hltI : (k : Int) < 8 := by omega
      have h0I : (0 : Int) ≤ (k : Int) := by omega
      clear hcb hy hb hyD hbD hbo hf
      cases y
      · go_wp2
        go_roundw
        case rel => exact ⟨k + 1, by omega, by go_num, Lib.hid (by rw [HS.out]; exact HF.out), BW⟩
        case measure => simp [intOf]; omega
      · go_wp2_with fail
        with_reducible refine (kb.out _).mono ?_
        rintro e3 w3 ⟨rfl, hb3⟩
        have B3 := Lib.hid (B0.out.trans (hb3.mono B0.out.size))
        have BW3 := Lib.hid (BW.out.trans (hb3.mono BW.out.size))
        clear hb3 d0 d1
        cases f
        · obtain rfl : r = false := no_of HR.out (fun q => by rw [show Bk.fit (there s.hs (prs s.bs) 8) = false from HNO.out (by first | rfl | trivial) (by first | rfl | trivial)] at q; cases q.2.2.1)
          go_wp2
          go_ret
          exact ⟨rfl, B3.out⟩
        · go_wp2
          go_roundw
          case rel => exact ⟨k + 1, by omega, by go_num, Lib.hid (by rw [HS.out, if_pos (by first | rfl | trivial), fit_snoc, HF.out]; exact HFF.out), BW3⟩
          case measure => simp [intOf]; omega
    · obtain rfl : k = 8 := by omega
      have hrr : r = true ↔ (if g.ph = 0 then (g.l.o = 0 ∧ g.l.l = 0) ∧ g.tx = 0 ∧ g.stx = 0 ∧ nt = 0 else fr = false ∧ g.la < g.tx ∧ g.stx = g.tx ∧ ((g.ph = 1 ∧ 1 ≤ g.l.l) ∨ (g.ph = 2 ∧ g.l.l = -1 ∧ b1 = true))) := by
        rw [HR.out]
        exact ⟨fun q => q.2.2.2, fun q => ⟨H64.out, by omega, HF.out, q⟩⟩
      replace HR := Lib.hid hrr
      clear hrr HF HG BW
      have hst : g.stx = s.tx := IS.out.st.tx.symm
      have HG := Lib.hid (R1.out.stage H25)
      have a6 : wr.cell? ⟨w.heap.size, 6, none⟩ = some (.int .u32 (g.stx : Int)) := (R1.out.cell (agL_st (Stv.C_tx s))).trans (by rw [hst])
      clear hst
      have alt : w.heap.size < (wr).heap.size := R1.out.lt
      have alu : w.heap.size < (wr).heap.size + 1 := Nat.lt_succ_of_lt R1.out.lt
      have a0 : (wr).cell? ⟨w.heap.size, 0, none⟩ = some (.slice A g.bank.length c) := R1.out.cells 0
      have az0 : (wr).frozen? ⟨w.heap.size, 0, none⟩ = false := R1.out.frozen 0
      have a1 : (wr).cell? ⟨w.heap.size, 1, none⟩ = some (.int .u16 (g.l.o : Int)) := R1.out.cells 1
      have az1 : (wr).frozen? ⟨w.heap.size, 1, none⟩ = false := R1.out.frozen 1
      have a2 : (wr).cell? ⟨w.heap.size, 2, none⟩ = some (.int .i64 g.l.l) := R1.out.cells 2
      have az2 : (wr).frozen? ⟨w.heap.size, 2, none⟩ = false := R1.out.frozen 2
      have a3 : (wr).cell? ⟨w.heap.size, 3, none⟩ = some (.int .u8 (g.ph : Int)) := R1.out.cells 3
      have az3 : (wr).frozen? ⟨w.heap.size, 3, none⟩ = false := R1.out.frozen 3
      have a4 : (wr).cell? ⟨w.heap.size, 4, none⟩ = some (.int .u32 (g.tx : Int)) := R1.out.cells 4
      have az4 : (wr).frozen? ⟨w.heap.size, 4, none⟩ = false := R1.out.frozen 4
      have a5 : (wr).cell? ⟨w.heap.size, 5, none⟩ = some (.int .u32 (g.la : Int)) := R1.out.cells 5
      have az5 : (wr).frozen? ⟨w.heap.size, 5, none⟩ = false := R1.out.frozen 5
      by_cases h0 : g.ph = 0
      · have g3 : ((g.ph : Int) == 0) = true := by simp [h0]
        have hrr := HR.out
        rw [if_pos h0] at hrr
        by_cases h3 : g.l.o = 0 ∧ g.l.l = 0
        rotate_left
        · obtain rfl : r = false := no_of hrr (fun q => h3 q.1)
          rw [decide_eq_false h3] at kl
          clear hrr h0 h3
          go_wp2
          go_ret
          exact ⟨rfl, B0.out⟩
        rw [decide_eq_true h3] at kl
        by_cases h4 : g.tx = 0
        rotate_left
        · obtain rfl : r = false := no_of hrr (fun q => h4 q.2.1)
          have g4 : ((g.tx : Int) == 0) = false := beq_eq_false_iff_ne.2 (by omega)
          clear hrr h0 h3 h4
          go_wp2
          go_ret
          exact ⟨rfl, B0.out⟩
        have g4 : ((g.tx : Int) == 0) = true := by simp [h4]
        by_cases h5 : g.stx = 0
        rotate_left
        · obtain rfl : r = false := no_of hrr (fun q => h5 q.2.2.1)
          have g5 : ((g.stx : Int) == 0) = false := beq_eq_false_iff_ne.2 (by omega)
          clear hrr h0 h3 h4 h5
          go_wp2
          go_ret
          exact ⟨rfl, B0.out⟩
        have g5 : ((g.stx : Int) == 0) = true := by simp [h5]
        have hr2 : decide (nt = 0) = r := by rw [Bool.eq_iff_iff, hrr]; simp [h3, h4, h5]
        have HR2 := Lib.hid hr2
        clear hrr h0 h3 h4 h5 hr2
        go_wp2_with (refine wpList_load_mid_g (by kernel_rfl) 33 (.tmp 51) rfl w.heap.size 6 rfl s.C _ HG.out Try.underlying33 rfl HZ.out ?_)
        with_reducible refine (kth.out _ B0.out).mono ?_
        rintro e4 w4 ⟨rfl, hb4⟩
        have B4 := Lib.hid (B0.out.trans (hb4.mono B0.out.size))
        clear hb4
        by_cases h6 : nt = 0
        · have g6 : ((nt : Int) == 0) = true := by simp [h6]
          obtain rfl : true = r := by rw [← HR2.out, decide_eq_true h6]
          clear h6
          go_wp2
          go_ret
          exact ⟨rfl, B4.out⟩
        · have g6 : ((nt : Int) == 0) = false := beq_eq_false_iff_ne.2 (by omega)
          obtain rfl : false = r := by rw [← HR2.out, decide_eq_false h6]
          clear h6
          go_wp2
          go_ret
          exact ⟨rfl, B4.out⟩
      · have g3 : ((g.ph : Int) == 0) = false := beq_eq_false_iff_ne.2 (by omega)
        have hrr := HR.out
        rw [if_neg h0] at hrr
        have HRR := Lib.hid hrr
        clear hrr kl kth HR
        go_wp2_with fail
        with_reducible refine (kfr.out _).mono ?_
        rintro e4 w4 ⟨rfl, hb4⟩
        have hst : g.stx = s.tx := IS.out.st.tx.symm
        replace R1 := Lib.hid (R1.out.to hb4)
        replace HG := Lib.hid (R1.out.stage H25)
        replace B0 := Lib.hid (B0.out.trans (hb4.mono B0.out.size))
        clear hb4 a0 a1 a2 a3 a4 a5 az0 az1 az2 az3 az4 az5 alt alu kfr wr a6
        rename World => wr
        have a6 : wr.cell? ⟨w.heap.size, 6, none⟩ = some (.int .u32 (g.stx : Int)) := (R1.out.cell (agL_st (Stv.C_tx s))).trans (by rw [hst])
        clear hst
        have alt : w.heap.size < (wr).heap.size := R1.out.lt
        have alu : w.heap.size < (wr).heap.size + 1 := Nat.lt_succ_of_lt R1.out.lt
        have a0 : (wr).cell? ⟨w.heap.size, 0, none⟩ = some (.slice A g.bank.length c) := R1.out.cells 0
        have az0 : (wr).frozen? ⟨w.heap.size, 0, none⟩ = false := R1.out.frozen 0
        have a1 : (wr).cell? ⟨w.heap.size, 1, none⟩ = some (.int .u16 (g.l.o : Int)) := R1.out.cells 1
        have az1 : (wr).frozen? ⟨w.heap.size, 1, none⟩ = false := R1.out.frozen 1
        have a2 : (wr).cell? ⟨w.heap.size, 2, none⟩ = some (.int .i64 g.l.l) := R1.out.cells 2
        have az2 : (wr).frozen? ⟨w.heap.size, 2, none⟩ = false := R1.out.frozen 2
        have a3 : (wr).cell? ⟨w.heap.size, 3, none⟩ = some (.int .u8 (g.ph : Int)) := R1.out.cells 3
        have az3 : (wr).frozen? ⟨w.heap.size, 3, none⟩ = false := R1.out.frozen 3
        have a4 : (wr).cell? ⟨w.heap.size, 4, none⟩ = some (.int .u32 (g.tx : Int)) := R1.out.cells 4
        have az4 : (wr).frozen? ⟨w.heap.size, 4, none⟩ = false := R1.out.frozen 4
        have a5 : (wr).cell? ⟨w.heap.size, 5, none⟩ = some (.int .u32 (g.la : Int)) := R1.out.cells 5
        have az5 : (wr).frozen? ⟨w.heap.size, 5, none⟩ = false := R1.out.frozen 5
        cases fr
        rotate_left
        · obtain rfl : r = false := no_of HRR.out (fun q => by cases q.1)
          clear h0
          go_wp2
          go_ret
          exact ⟨rfl, B0.out⟩
        by_cases h3 : g.tx ≤ g.la
        · have g4 : decide (g.tx ≤ g.la) = true := decide_eq_true h3
          obtain rfl : r = false := no_of HRR.out (fun q => by have := q.2.1; omega)
          clear h0 h3
          go_wp2
          go_ret
          exact ⟨rfl, B0.out⟩
        have g4 : decide (g.tx ≤ g.la) = false := decide_eq_false h3
        by_cases h5 : g.stx = g.tx
        rotate_left
        · obtain rfl : r = false := no_of HRR.out (fun q => h5 q.2.2.1)
          have g5 : ((g.stx : Int) != (g.tx : Int)) = true := bne_iff_ne.2 (by omega)
          clear h0 h3 h5
          go_wp2
          go_ret
          exact ⟨rfl, B0.out⟩
        have g5 : ((g.stx : Int) != (g.tx : Int)) = false := by simp [h5]
        by_cases h6 : g.ph = 1
        · have g6 : ((g.ph : Int) == 1) = true := by simp [h6]
          have hr2 : decide (1 ≤ g.l.l) = r := by
            rw [Bool.eq_iff_iff, HRR.out]
            simp only [decide_eq_true_eq]
            exact ⟨fun q => ⟨trivial, by omega, h5, .inl ⟨h6, q⟩⟩, fun q => by rcases q.2.2.2 with z | z; exact z.2; omega⟩
          clear h0 h3 h5 h6 HRR
          cases r
          · go_wp2
            go_ret
            exact ⟨rfl, B0.out⟩
          · go_wp2
            go_ret
            exact ⟨rfl, B0.out⟩
        have g6 : ((g.ph : Int) == 1) = false := beq_eq_false_iff_ne.2 (by omega)
        by_cases h7 : g.ph = 2
        rotate_left
        · have g7 : ((g.ph : Int) == 2) = false := beq_eq_false_iff_ne.2 (by omega)
          obtain rfl : r = false := no_of HRR.out (fun q => by rcases q.2.2.2 with z | z; exact h6 z.1; exact h7 z.1)
          clear h0 h3 h5 h6 h7
          go_wp2
          go_ret
          exact ⟨rfl, B0.out⟩
        have g7 : ((g.ph : Int) == 2) = true := by simp [h7]
        by_cases h8 : g.l.l = -1
        rotate_left
        · have g8 : (g.l.l == -1) = false := beq_eq_false_iff_ne.2 h8
          obtain rfl : r = false := no_of HRR.out (fun q => by rcases q.2.2.2 with z | z; exact h6 z.1; exact h8 z.2.1)
          clear h0 h3 h5 h6 h7 h8
          go_wp2
          go_ret
          exact ⟨rfl, B0.out⟩
        have g8 : (g.l.l == -1) = true := by simp [h8]
        obtain rfl : b1 = r := by
          rw [Bool.eq_iff_iff, HRR.out]
          exact ⟨fun q => ⟨rfl, by omega, h5, .inr ⟨h7, h8, q⟩⟩, fun q => by rcases q.2.2.2 with z | z; exact absurd z.1 h6; exact z.2.2⟩
        clear h0 h3 h5 h6 h7 h8 HRR
        go_wp2_with (refine wpList_load_mid_g (by kernel_rfl) 33 (.tmp 89) rfl w.heap.size 6 rfl s.C _ HG.out Try.underlying33 rfl HZ.out ?_)
        with_reducible refine (kfi.out _ B0.out).mono ?_
        rintro e5 w5 ⟨rfl, hb5⟩
        have B5 := Lib.hid (B0.out.trans (hb5.mono B0.out.size))
        clear hb5
        cases b1
        · go_wp2
          go_ret
          exact ⟨rfl, B5.out⟩
        · go_wp2
          go_ret
          exact ⟨rfl, B5.out⟩
end
end Go.Proofs.Ytajbghjjpebndaa
namespace Go.Proofs.Ytajbghjjpebndaa
set_option maxRecDepth 100000
open Go.RowKit
set_option linter.unusedVariables false
set_option linter.unusedSimpArgs false
attribute [local go_sem] Later.cell Later.frozen setCell_twice
/-! ### an agent's memory beside a variable that is written -/
def AgOff (b : Nat) (A : Option Addr) (s : Stv) (g : Ag) : Prop := (0 < g.bank.length → ∀ p, A = some p → p.block ≠ b) ∧ ∀ x ∈ s.bs, 0 < x.ws.length → ∀ p, x.A = some p → p.block ≠ b
section
variable {A : Option Addr} {c base b : Nat} {s : Stv} {g : Ag} {w w' : World}
theorem AgIs.off (h : AgIs A c s g w base) (hb : b < base ∨ w.heap.size ≤ b) : AgOff b A s g := by
  refine ⟨fun hn p hp e => ?_, fun x hx hn p hp e => ?_⟩
  · rcases hb with hb | hb
    · have := h.new p hp; omega
    · obtain ⟨b', o, hA, hlt, _⟩ := h.sq hn
      rw [hA] at hp
      obtain rfl := Option.some.inj hp
      simp only at e
      omega
  · rcases hb with hb | hb
    · have := h.st.new x hx p hp; omega
    · obtain ⟨b', o, hA, hlt, _⟩ := (h.st.ok.ok x hx).sq hn
      rw [hA] at hp
      obtain rfl := Option.some.inj hp
      simp only at e
      omega
theorem Sq.onlyO {α : Type} {f : α → Value} {A : Option Addr} {l : List α} {g : Nat} (h : Sq f w w.heap.size A l) (k : Only g w w') (hne : 0 < l.length → ∀ p, A = some p → p.block ≠ g) : Sq f w' w'.heap.size A l := fun hn => by
  obtain ⟨b', o, hA, hb, hc⟩ := h hn
  exact ⟨b', o, hA, by rw [k.size]; exact hb, fun j x hx => (k.cell (p := ⟨b', o + j, none⟩) (show b' ≠ g from hne hn _ hA)).trans (hc j x hx)⟩
theorem AgIs.onlyO (h : AgIs A c s g w base) (k : Only b w w') (ho : AgOff b A s g) : AgIs A c s g w' base :=
  ⟨h.sq.onlyO k ho.1, h.new, h.nl, h.len, h.cap, h.small, h.u, ⟨⟨h.st.ok.lh, h.st.ok.lb, h.st.ok.tx, fun x hx => ⟨(h.st.ok.ok x hx).sq.onlyO k (ho.2 x hx), (h.st.ok.ok x hx).u, (h.st.ok.ok x hx).lo, (h.st.ok.ok x hx).hi, (h.st.ok.ok x hx).ln, (h.st.ok.ok x hx).cap, (h.st.ok.ok x hx).nl⟩⟩, h.st.tx, h.st.S, h.st.new, h.st.ln⟩, h.o, h.l, h.ph, h.tx, h.la, h.tk⟩
end
/-! ### operations -/
structure OV where
  what : Nat
  c : Cmd
  good : Bool
  n : Int
  x : Blk
abbrev opL (v : OV) : List Value := [.int .u8 (v.what : Int), .int .u16 (v.c.ow : Int), .int .u8 (v.c.v : Int), .int .u32 (v.c.tx : Int), .int .u16 (v.c.n : Int), .int .u32 (v.c.ck : Int), .bool v.good, .int .i64 v.n, .int .i64 v.x.a, .slice v.x.A v.x.ws.length v.x.c]
def OV.op (v : OV) : AOp := ⟨v.what, v.c, v.good, v.n, v.x.pr⟩
structure OV.Ok (v : OV) (w : World) (B : Nat) : Prop where
  what : v.what < 256
  c : v.c.Fit
  n : -9223372036854775808 ≤ v.n ∧ v.n ≤ 9223372036854775807
  x : v.x.Ok w B
theorem OV.Ok.to {v : OV} {w w' : World} (h : v.Ok w w.heap.size) (k : Below w.heap.size w w') : v.Ok w' w'.heap.size := ⟨h.what, h.c, h.n, h.x.to k⟩
theorem size_op : (Try.prog.info? 43).map (·.size) = some 10 := by kernel_rfl
theorem in_oac (w : World) (C D : List Value) : RowAt (((w.alloc (.cells C.toArray 43)).alloc (.cells D.toArray 35)).alloc (.cells #[.int .u16 0, .int .u8 0, .int .u32 0, .int .u16 0, .int .u32 0] 41)) w.heap.size 43 C ∧ RowAt (((w.alloc (.cells C.toArray 43)).alloc (.cells D.toArray 35)).alloc (.cells #[.int .u16 0, .int .u8 0, .int .u32 0, .int .u16 0, .int .u32 0] 41)) (w.heap.size + 1) 35 D ∧ RowAt (((w.alloc (.cells C.toArray 43)).alloc (.cells D.toArray 35)).alloc (.cells #[.int .u16 0, .int .u8 0, .int .u32 0, .int .u16 0, .int .u32 0] 41)) (w.heap.size + 2) 41 [.int .u16 0, .int .u8 0, .int .u32 0, .int .u16 0, .int .u32 0] ∧ Below w.heap.size w (((w.alloc (.cells C.toArray 43)).alloc (.cells D.toArray 35)).alloc (.cells #[.int .u16 0, .int .u8 0, .int .u32 0, .int .u16 0, .int .u32 0] 41)) ∧ w.heap.size + 3 ≤ (((w.alloc (.cells C.toArray 43)).alloc (.cells D.toArray 35)).alloc (.cells #[.int .u16 0, .int .u8 0, .int .u32 0, .int .u16 0, .int .u32 0] 41)).heap.size :=
  ⟨((RowAt.new w _ _).alloc _).alloc _, (new2 _ _ _ _).alloc _, new3 _ _ _ _ [.int .u16 0, .int .u8 0, .int .u32 0, .int .u16 0, .int .u32 0], bel_alloc (bel_alloc (bel_alloc (Below.refl _ _) _) _) _, by rw [World.size_alloc, World.size_alloc, World.size_alloc]; exact Nat.le_refl _⟩
theorem in_oar (w : World) (C D : List Value) : RowAt (((w.alloc (.cells C.toArray 43)).alloc (.cells D.toArray 35)).alloc (.cells z32 35)) w.heap.size 43 C ∧ RowAt (((w.alloc (.cells C.toArray 43)).alloc (.cells D.toArray 35)).alloc (.cells z32 35)) (w.heap.size + 1) 35 D ∧ RowAt (((w.alloc (.cells C.toArray 43)).alloc (.cells D.toArray 35)).alloc (.cells z32 35)) (w.heap.size + 2) 35 (agC none 0 Stv.zero Ag0) ∧ Below w.heap.size w (((w.alloc (.cells C.toArray 43)).alloc (.cells D.toArray 35)).alloc (.cells z32 35)) ∧ w.heap.size + 3 ≤ (((w.alloc (.cells C.toArray 43)).alloc (.cells D.toArray 35)).alloc (.cells z32 35)).heap.size :=
  ⟨((RowAt.new w _ _).alloc _).alloc _, (new2 _ _ _ _).alloc _, by have h := new3 w (.cells C.toArray 43) (.cells D.toArray 35) 35 (agC none 0 Stv.zero Ag0); rw [z32_eq] at h; exact h, bel_alloc (bel_alloc (bel_alloc (Below.refl _ _) _) _) _, by rw [World.size_alloc, World.size_alloc, World.size_alloc]; exact Nat.le_refl _⟩
section
variable {A : Option Addr} {c base : Nat} {s : Stv} {g : Ag}
theorem AgIs.u16s {w : World} (h : AgIs A c s g w base) : ∀ p ∈ ssThere g.S, ∀ x ∈ p.2, x < 65536 := by
  rw [← h.st.S, ← Stv.there_S]
  intro p hp
  obtain ⟨k, hk, rfl⟩ := List.mem_map.1 hp
  have hk8 : k < 8 := by have := (List.mem_filter.1 hk).1; simpa using this
  obtain ⟨b, hb⟩ : ∃ b, s.bs[k]? = some b := ⟨_, List.getElem?_eq_getElem (by rw [h.st.ok.lb]; exact hk8)⟩
  rw [List.getD_eq_getElem?_getD, prs_get hb]
  exact (h.st.ok.ok b (List.mem_of_getElem? hb)).u
theorem AgIs.cmd_fit {w : World} {v : OV} {B : Nat} (h : AgIs A c s g w base) (hv : v.Ok w B) : (v.op.cmd g).Fit := by
  unfold AOp.cmd
  split
  · refine ⟨hv.c.ow, hv.c.v, hv.c.tx, ?_, chk_lt h.u16s⟩
    have := ssThere_length g.S
    rw [h.S8] at this
    show (ssThere g.S).length < 65536
    omega
  · exact hv.c
set_option maxHeartbeats 1000000 in
theorem command_any (w : World) (h : AgIs A c s g w base) (v : OV) (hv : v.Ok w w.heap.size) :
    Calls Try.prog 30 #[.agg (opL v).toArray, .agg (agC A c s g).toArray] w fun e w' => e = .returned (.agg (cmdL (v.op.cmd g)).toArray) ∧ Below w.heap.size w w' := by
  obtain ⟨what, ⟨ow, vb, tx, cn, ck⟩, good, n, x⟩ := v
  obtain ⟨Q, hQ⟩ : ∃ Q, (OV.op ⟨what, ⟨ow, vb, tx, cn, ck⟩, good, n, x⟩).cmd g = Q := ⟨_, rfl⟩
  rw [hQ]
  have HQ := Lib.hid hQ
  have kb := Lib.hid (fun W (hW : Below w.heap.size w W) => rblocks_S W (h.st.to hW))
  have H25 := h.C25
  have hT8 : (ssThere g.S).length ≤ 8 := by have := ssThere_length g.S; rw [h.S8] at this; exact this
  have HZ : Hid ((Try.prog.info? 33).map (·.size) = some s.C.length) := Lib.hid (by rw [H25]; exact size_25)
  clear h hv hQ
  go_enter Try.func30, Try.ntmps30
  go_upto_region 1 with fail
  obtain ⟨w0, hw0⟩ : ∃ w_q_, w_q_ = ((w.alloc (.cells (opL ⟨what, ⟨ow, vb, tx, cn, ck⟩, good, n, x⟩).toArray 43)).alloc (.cells (agC A c s g).toArray 35)).alloc (.cells #[.int .u16 0, .int .u8 0, .int .u32 0, .int .u16 0, .int .u32 0] 41) := ⟨_, rfl⟩
  rw [← hw0]
  have hin := in_oac w (opL ⟨what, ⟨ow, vb, tx, cn, ck⟩, good, n, x⟩) (agC A c s g)
  rw [← hw0] at hin
  obtain ⟨ro, r1, rc, b0, z0⟩ := hin
  have RO := Lib.hid ro
  have R1 := Lib.hid r1
  have RC := Lib.hid rc
  have B0 := Lib.hid b0
  clear hw0 ro r1 rc b0
  have olt : w.heap.size < (w0).heap.size := RO.out.lt
  have olu : w.heap.size < (w0).heap.size + 1 := Nat.lt_succ_of_lt RO.out.lt
  have o0 : (w0).cell? ⟨w.heap.size, 0, none⟩ = some (.int .u8 (what : Int)) := RO.out.cells 0
  have oz0 : (w0).frozen? ⟨w.heap.size, 0, none⟩ = false := RO.out.frozen 0
  have o1 : (w0).cell? ⟨w.heap.size, 1, none⟩ = some (.int .u16 (ow : Int)) := RO.out.cells 1
  have oz1 : (w0).frozen? ⟨w.heap.size, 1, none⟩ = false := RO.out.frozen 1
  have o2 : (w0).cell? ⟨w.heap.size, 2, none⟩ = some (.int .u8 (vb : Int)) := RO.out.cells 2
  have oz2 : (w0).frozen? ⟨w.heap.size, 2, none⟩ = false := RO.out.frozen 2
  have o3 : (w0).cell? ⟨w.heap.size, 3, none⟩ = some (.int .u32 (tx : Int)) := RO.out.cells 3
  have oz3 : (w0).frozen? ⟨w.heap.size, 3, none⟩ = false := RO.out.frozen 3
  have o4 : (w0).cell? ⟨w.heap.size, 4, none⟩ = some (.int .u16 (cn : Int)) := RO.out.cells 4
  have oz4 : (w0).frozen? ⟨w.heap.size, 4, none⟩ = false := RO.out.frozen 4
  have o5 : (w0).cell? ⟨w.heap.size, 5, none⟩ = some (.int .u32 (ck : Int)) := RO.out.cells 5
  have oz5 : (w0).frozen? ⟨w.heap.size, 5, none⟩ = false := RO.out.frozen 5
  have o6 : (w0).cell? ⟨w.heap.size, 6, none⟩ = some (.bool good) := RO.out.cells 6
  have oz6 : (w0).frozen? ⟨w.heap.size, 6, none⟩ = false := RO.out.frozen 6
  go_upto_region 2 with fail
  obtain ⟨w1, hw1⟩ : ∃ w_q_, w_q_ = w0.alloc (.cells #[.int .u16 (ow : Int), .int .u8 (vb : Int), .int .u32 (tx : Int), .int .u16 (cn : Int), .int .u32 (ck : Int)] 41) := ⟨_, rfl⟩
  rw [← hw1]
  have hb1 : Below w0.heap.size w0 w1 := by rw [hw1]; exact bel_alloc (Below.refl _ _) _
  have RV := Lib.hid (show RowAt w1 w0.heap.size 41 [.int .u16 (ow : Int), .int .u8 (vb : Int), .int .u32 (tx : Int), .int .u16 (cn : Int), .int .u32 (ck : Int)] from hw1 ▸ RowAt.new w0 _ _)
  replace RO := Lib.hid (RO.out.to hb1)
  replace R1 := Lib.hid (R1.out.to hb1)
  replace RC := Lib.hid (RC.out.to hb1)
  have B1 := Lib.hid (B0.out.trans (hb1.mono B0.out.size))
  have hz1 := hb1.size
  clear hw1 hb1 o0 o1 o2 o3 o4 o5 o6 oz0 oz1 oz2 oz3 oz4 oz5 oz6 B0 olt olu
  have o6 : w1.cell? ⟨w.heap.size, 6, none⟩ = some (.bool good) := RO.out.cells 6
  cases good
  · obtain rfl : (⟨ow, vb, tx, cn, ck⟩ : Cmd) = Q := by rw [← HQ.out]; rfl
    have dlt : w0.heap.size < (w1).heap.size := RV.out.lt
    have dlu : w0.heap.size < (w1).heap.size + 1 := Nat.lt_succ_of_lt RV.out.lt
    have d0 : (w1).cell? ⟨w0.heap.size, 0, none⟩ = some (.int .u16 (ow : Int)) := RV.out.cells 0
    have dz0 : (w1).frozen? ⟨w0.heap.size, 0, none⟩ = false := RV.out.frozen 0
    have d1 : (w1).cell? ⟨w0.heap.size, 1, none⟩ = some (.int .u8 (vb : Int)) := RV.out.cells 1
    have dz1 : (w1).frozen? ⟨w0.heap.size, 1, none⟩ = false := RV.out.frozen 1
    have d2 : (w1).cell? ⟨w0.heap.size, 2, none⟩ = some (.int .u32 (tx : Int)) := RV.out.cells 2
    have dz2 : (w1).frozen? ⟨w0.heap.size, 2, none⟩ = false := RV.out.frozen 2
    have d3 : (w1).cell? ⟨w0.heap.size, 3, none⟩ = some (.int .u16 (cn : Int)) := RV.out.cells 3
    have dz3 : (w1).frozen? ⟨w0.heap.size, 3, none⟩ = false := RV.out.frozen 3
    have d4 : (w1).cell? ⟨w0.heap.size, 4, none⟩ = some (.int .u32 (ck : Int)) := RV.out.cells 4
    have dz4 : (w1).frozen? ⟨w0.heap.size, 4, none⟩ = false := RV.out.frozen 4
    have flt : w.heap.size + 2 < (w1).heap.size := RC.out.lt
    have flu : w.heap.size + 2 < (w1).heap.size + 1 := Nat.lt_succ_of_lt RC.out.lt
    have f0 : (w1).cell? ⟨w.heap.size + 2, 0, none⟩ = some (.int .u16 0) := RC.out.cells 0
    have fz0 : (w1).frozen? ⟨w.heap.size + 2, 0, none⟩ = false := RC.out.frozen 0
    have f1 : (w1).cell? ⟨w.heap.size + 2, 1, none⟩ = some (.int .u8 0) := RC.out.cells 1
    have fz1 : (w1).frozen? ⟨w.heap.size + 2, 1, none⟩ = false := RC.out.frozen 1
    have f2 : (w1).cell? ⟨w.heap.size + 2, 2, none⟩ = some (.int .u32 0) := RC.out.cells 2
    have fz2 : (w1).frozen? ⟨w.heap.size + 2, 2, none⟩ = false := RC.out.frozen 2
    have f3 : (w1).cell? ⟨w.heap.size + 2, 3, none⟩ = some (.int .u16 0) := RC.out.cells 3
    have fz3 : (w1).frozen? ⟨w.heap.size + 2, 3, none⟩ = false := RC.out.frozen 3
    have f4 : (w1).cell? ⟨w.heap.size + 2, 4, none⟩ = some (.int .u32 0) := RC.out.cells 4
    have fz4 : (w1).frozen? ⟨w.heap.size + 2, 4, none⟩ = false := RC.out.frozen 4
    go_wp2
    have hfin : RowAt (((((w1.setCell ⟨w.heap.size + 1 + 1, 0, none⟩ (.int .u16 (ow : Int))).setCell ⟨w.heap.size + 1 + 1, 1, none⟩ (.int .u8 (vb : Int))).setCell ⟨w.heap.size + 1 + 1, 2, none⟩ (.int .u32 (tx : Int))).setCell ⟨w.heap.size + 1 + 1, 3, none⟩ (.int .u16 (cn : Int))).setCell ⟨w.heap.size + 1 + 1, 4, none⟩ (.int .u32 (ck : Int))) (w.heap.size + 1 + 1) 41 (cmdL ⟨ow, vb, tx, cn, ck⟩) := ((((RC.out.set 0 _).set 1 _).set 2 _).set 3 _).set 4 _
    exact bodyPost_ret (results_cell_row rfl _ _ (w.heap.size + 2) 41 _ (0, 0) _ rfl hfin Try.underlying41 rfl (by kernel_rfl)) rfl ⟨rfl, ((((B1.out.setCell (by simp; omega) _).setCell (by simp; omega) _).setCell (by simp; omega) _).setCell (by simp; omega) _).setCell (by simp; omega) _⟩
  · obtain ⟨m, hm⟩ : ∃ m, (ssThere g.S).length = m := ⟨_, rfl⟩
    obtain ⟨z, hz⟩ : ∃ z, chk (ssThere g.S) = z := ⟨_, rfl⟩
    obtain rfl : (⟨ow, vb, tx, m, z⟩ : Cmd) = Q := by rw [← HQ.out, ← hm, ← hz]; rfl
    have HM := Lib.hid hm
    have HZC := Lib.hid hz
    have hm8 : m ≤ 8 := by omega
    have HG := Lib.hid (R1.out.stage H25)
    clear hm hz hT8
    go_wp2_with (refine wpList_load_mid rfl 33 (.tmp 11) rfl (w.heap.size + 1) 6 rfl s.C _ HG.out Try.underlying33 rfl HZ.out ?_)
    with_reducible refine (kb.out _ B1.out).mono ?_
    rintro e2 w2 ⟨A2, c2, bl, rfl, hp, hB, hl, hc, hn, hb2⟩
    have hbm : bl.length = m := by have := congrArg List.length hp; rw [← HM.out, ← this]; simp
    rw [hbm]
    have ks := Lib.hid (rsum_any A2 bl c2 m _ w2 hB hbm (by omega) (hbm ▸ hl) hc hp)
    rw [HZC.out] at ks
    replace RV := Lib.hid (RV.out.to hb2)
    replace RC := Lib.hid (RC.out.to hb2)
    have B2 := Lib.hid (B1.out.trans (hb2.mono B1.out.size))
    have hz2 := hb2.size
    clear hp hB hl hc hn hb2 hbm kb o6 HG
    go_wp2_with fail
    with_reducible refine (ks.out).mono ?_
    rintro e3 w3 ⟨rfl, hb3⟩
    replace RV := Lib.hid (RV.out.to hb3)
    replace RC := Lib.hid (RC.out.to hb3)
    have B3 := Lib.hid (B2.out.trans (hb3.mono B2.out.size))
    have hz3 := hb3.size
    clear hb3 ks B2 RO R1
    have dlt : w0.heap.size < (w3).heap.size := RV.out.lt
    have dlu : w0.heap.size < (w3).heap.size + 1 := Nat.lt_succ_of_lt RV.out.lt
    have d0 : (w3).cell? ⟨w0.heap.size, 0, none⟩ = some (.int .u16 (ow : Int)) := RV.out.cells 0
    have dz0 : (w3).frozen? ⟨w0.heap.size, 0, none⟩ = false := RV.out.frozen 0
    have d1 : (w3).cell? ⟨w0.heap.size, 1, none⟩ = some (.int .u8 (vb : Int)) := RV.out.cells 1
    have dz1 : (w3).frozen? ⟨w0.heap.size, 1, none⟩ = false := RV.out.frozen 1
    have d2 : (w3).cell? ⟨w0.heap.size, 2, none⟩ = some (.int .u32 (tx : Int)) := RV.out.cells 2
    have dz2 : (w3).frozen? ⟨w0.heap.size, 2, none⟩ = false := RV.out.frozen 2
    have d3 : (w3).cell? ⟨w0.heap.size, 3, none⟩ = some (.int .u16 (cn : Int)) := RV.out.cells 3
    have dz3 : (w3).frozen? ⟨w0.heap.size, 3, none⟩ = false := RV.out.frozen 3
    have d4 : (w3).cell? ⟨w0.heap.size, 4, none⟩ = some (.int .u32 (ck : Int)) := RV.out.cells 4
    have dz4 : (w3).frozen? ⟨w0.heap.size, 4, none⟩ = false := RV.out.frozen 4
    go_upto_region 5 with fail
    obtain ⟨w4, hw4⟩ : ∃ w_q_, w_q_ = (w3.setCell ⟨w0.heap.size, 3, none⟩ (.int .u16 (m : Int))).setCell ⟨w0.heap.size, 4, none⟩ (.int .u32 (z : Int)) := ⟨_, rfl⟩
    rw [← hw4]
    have k4 : Only w0.heap.size w3 w4 := by rw [hw4]; exact ((Only.refl _ _).set _).set _
    have RV4 : Hid (RowAt w4 w0.heap.size 41 (cmdL ⟨ow, vb, tx, m, z⟩)) := Lib.hid (by rw [hw4]; exact (RV.out.set 3 _).set 4 _)
    replace RC := Lib.hid (RC.out.only k4 (by omega))
    have B4 := Lib.hid (k4.to B3.out (by omega))
    clear hw4 k4 RV B3 d0 d1 d2 d3 d4 dz0 dz1 dz2 dz3 dz4
    have dlt : w0.heap.size < (w4).heap.size := RV4.out.lt
    have dlu : w0.heap.size < (w4).heap.size + 1 := Nat.lt_succ_of_lt RV4.out.lt
    have d0 : (w4).cell? ⟨w0.heap.size, 0, none⟩ = some (.int .u16 (ow : Int)) := RV4.out.cells 0
    have dz0 : (w4).frozen? ⟨w0.heap.size, 0, none⟩ = false := RV4.out.frozen 0
    have d1 : (w4).cell? ⟨w0.heap.size, 1, none⟩ = some (.int .u8 (vb : Int)) := RV4.out.cells 1
    have dz1 : (w4).frozen? ⟨w0.heap.size, 1, none⟩ = false := RV4.out.frozen 1
    have d2 : (w4).cell? ⟨w0.heap.size, 2, none⟩ = some (.int .u32 (tx : Int)) := RV4.out.cells 2
    have dz2 : (w4).frozen? ⟨w0.heap.size, 2, none⟩ = false := RV4.out.frozen 2
    have d3 : (w4).cell? ⟨w0.heap.size, 3, none⟩ = some (.int .u16 (m : Int)) := RV4.out.cells 3
    have dz3 : (w4).frozen? ⟨w0.heap.size, 3, none⟩ = false := RV4.out.frozen 3
    have d4 : (w4).cell? ⟨w0.heap.size, 4, none⟩ = some (.int .u32 (z : Int)) := RV4.out.cells 4
    have dz4 : (w4).frozen? ⟨w0.heap.size, 4, none⟩ = false := RV4.out.frozen 4
    have flt : w.heap.size + 2 < (w4).heap.size := RC.out.lt
    have flu : w.heap.size + 2 < (w4).heap.size + 1 := Nat.lt_succ_of_lt RC.out.lt
    have f0 : (w4).cell? ⟨w.heap.size + 2, 0, none⟩ = some (.int .u16 0) := RC.out.cells 0
    have fz0 : (w4).frozen? ⟨w.heap.size + 2, 0, none⟩ = false := RC.out.frozen 0
    have f1 : (w4).cell? ⟨w.heap.size + 2, 1, none⟩ = some (.int .u8 0) := RC.out.cells 1
    have fz1 : (w4).frozen? ⟨w.heap.size + 2, 1, none⟩ = false := RC.out.frozen 1
    have f2 : (w4).cell? ⟨w.heap.size + 2, 2, none⟩ = some (.int .u32 0) := RC.out.cells 2
    have fz2 : (w4).frozen? ⟨w.heap.size + 2, 2, none⟩ = false := RC.out.frozen 2
    have f3 : (w4).cell? ⟨w.heap.size + 2, 3, none⟩ = some (.int .u16 0) := RC.out.cells 3
    have fz3 : (w4).frozen? ⟨w.heap.size + 2, 3, none⟩ = false := RC.out.frozen 3
    have f4 : (w4).cell? ⟨w.heap.size + 2, 4, none⟩ = some (.int .u32 0) := RC.out.cells 4
    have fz4 : (w4).frozen? ⟨w.heap.size + 2, 4, none⟩ = false := RC.out.frozen 4
    go_wp2
    have hfin : RowAt (((((w4.setCell ⟨w.heap.size + 1 + 1, 0, none⟩ (.int .u16 (ow : Int))).setCell ⟨w.heap.size + 1 + 1, 1, none⟩ (.int .u8 (vb : Int))).setCell ⟨w.heap.size + 1 + 1, 2, none⟩ (.int .u32 (tx : Int))).setCell ⟨w.heap.size + 1 + 1, 3, none⟩ (.int .u16 (m : Int))).setCell ⟨w.heap.size + 1 + 1, 4, none⟩ (.int .u32 (z : Int))) (w.heap.size + 1 + 1) 41 (cmdL ⟨ow, vb, tx, m, z⟩) := ((((RC.out.set 0 _).set 1 _).set 2 _).set 3 _).set 4 _
    exact bodyPost_ret (results_cell_row rfl _ _ (w.heap.size + 2) 41 _ (0, 0) _ rfl hfin Try.underlying41 rfl (by kernel_rfl)) rfl ⟨rfl, ((((B4.out.setCell (by simp; omega) _).setCell (by simp; omega) _).setCell (by simp; omega) _).setCell (by simp; omega) _).setCell (by simp; omega) _⟩
/-- what Does hands back: the agent keeps off the variables that the old one kept off -/
def DoesP (w : World) (A : Option Addr) (s : Stv) (g : Ag) (r : Ag × Int) (e : Ending) (w' : World) : Prop :=
  ∃ A' c' s', e = .returned (.tuple #[.agg (agC A' c' s' r.1).toArray, .int .i64 r.2]) ∧ AgIs A' c' s' r.1 w' 0 ∧ (∀ b, b < w.heap.size → AgOff b A s g → AgOff b A' s' r.1) ∧ Below w.heap.size w w'
theorem DoesP.of {w w' : World} {r : Ag × Int} {e : Ending} (h : AgEE w r e w') : DoesP w A s g r e w' := by
  obtain ⟨A', c', s', he, hi, hb⟩ := h
  exact ⟨A', c', s', he, hi.more (Nat.zero_le _), fun b hlt _ => hi.off (.inl hlt), hb⟩
set_option maxHeartbeats 1000000 in
theorem does_any (w : World) (h : AgIs A c s g w base) (hr : g.right) (v : OV) (hv : v.Ok w w.heap.size) :
    Calls Try.prog 12 #[.agg (opL v).toArray, .agg (agC A c s g).toArray] w (DoesP w A s g (v.op.does g)) := by
  obtain ⟨XX, hX⟩ : ∃ XX, v.op.does g = XX := ⟨_, rfl⟩
  rw [hX]
  have HX := Lib.hid hX
  have HR := Lib.hid hr
  have IS := Lib.hid h
  have HV := Lib.hid hv
  have HC := Lib.hid h.C32
  clear h hr hv hX
  go_enter Try.func12, Try.ntmps12
  go_upto_region 1 with fail
  obtain ⟨w0, hw0⟩ : ∃ w_q_, w_q_ = ((w.alloc (.cells (opL v).toArray 43)).alloc (.cells (agC A c s g).toArray 35)).alloc (.cells z32 35) := ⟨_, rfl⟩
  rw [← hw0]
  have hin := in_oar w (opL v) (agC A c s g)
  rw [← hw0] at hin
  obtain ⟨ro, r1, r2, b0, z0⟩ := hin
  have RO := Lib.hid ro
  have R1 := Lib.hid r1
  have R2 := Lib.hid r2
  have B0 := Lib.hid b0
  clear hw0 ro r1 r2 b0
  have o0 : w0.cell? ⟨w.heap.size, 0, none⟩ = some (.int .u8 (v.what : Int)) := RO.out.cells 0
  obtain ⟨m, hm⟩ : ∃ m, v.what % 4 = m := ⟨_, rfl⟩
  have hmI : (v.what : Int) % 4 = (m : Int) := by omega
  have HM := Lib.hid hm
  have hm4 : m < 4 := by omega
  clear hm
  rcases (show m = 0 ∨ m = 1 ∨ m = 2 ∨ m = 3 by omega) with rfl | rfl | rfl | rfl
  · have g0 : (v.what : Int) % 4 = 0 := hmI
    have hd : XX = g.doit (v.op.cmd g) := by rw [← HX.out]; unfold AOp.does; exact if_pos HM.out
    have kq := Lib.hid (fun W (hW : Below w.heap.size w W) => command_any W (IS.out.to hW) v (HV.out.to hW))
    have kd := Lib.hid (fun W (hW : Below w.heap.size w W) => agdo_any W (IS.out.to hW) HR.out (v.op.cmd g) (IS.out.cmd_fit HV.out))
    rw [← hd] at kd
    clear hmI hm4 HX hd HM
    go_upto_region 3 with fail
    clear o0
    refine wp_region_held_drew (S := (fun w' => RowAt w' (w.heap.size + 1) 35 (agC A c s g) ∧ RowAt w' w.heap.size 43 (opL v))) (by kernel_rfl) ?_ (fun hHeld => ?_)
    · exact ⟨R1.out, RO.out⟩
    refine takeD (i := 0) (oi := _) (v := _) (d := some 11) rfl (by kernel_rfl) (by kernel_rfl) (by kernel_rfl) (by kernel_rfl) (fun _ _ _ h => h) (yieldsIf_load_mid (by kernel_rfl) 35 (.tmp 3) (by kernel_rfl) (w.heap.size + 1) 0 (by kernel_rfl) (agC A c s g) _ (fun W h => h.1.all) Try.underlying35 rfl (by rw [size_32, HC.out])) (by assumption) ?_
    try simp only [Act.put, List.setIfInBounds_toArray, List.set_cons_zero, List.set_cons_succ]
    refine takeD (i := 1) (oi := _) (v := _) (d := some 12) rfl (by kernel_rfl) (by kernel_rfl) (by kernel_rfl) (by kernel_rfl) (fun _ _ _ h => h) (yieldsIf_load_mid (by kernel_rfl) 43 (.tmp 2) (by kernel_rfl) w.heap.size 0 (by kernel_rfl) (opL v) _ (fun W h => h.2.all) Try.underlying43 rfl (by rw [size_op]; rfl)) (by assumption) ?_
    try simp only [Act.put, List.setIfInBounds_toArray, List.set_cons_zero, List.set_cons_succ]
    refine takeD (i := 2) (oi := _) (v := _) (d := some 13) rfl (by kernel_rfl) (by kernel_rfl) (by kernel_rfl) (by kernel_rfl) (fun _ _ _ h => h) (yieldsIf_load_mid (by kernel_rfl) 35 (.tmp 3) (by kernel_rfl) (w.heap.size + 1) 0 (by kernel_rfl) (agC A c s g) _ (fun W h => h.1.all) Try.underlying35 rfl (by rw [size_32, HC.out])) (by assumption) ?_
    try simp only [Act.put, List.setIfInBounds_toArray, List.set_cons_zero, List.set_cons_succ]
    refine wpAnyH_ready (rs := [3]) (by kernel_rfl) (by simp) ?_
    refine AllReadyH.cons (o := _) rfl (fun K hK => ?_) AllReadyH.nil
    go_simp
    (go_at_call 30; (with_reducible refine (kq.out _ B0.out.drew).mono ?_); rintro e1 w1 ⟨rfl, hb1⟩; have hb1a : Below w0.heap.size w0 w1 := (Below.refl _ _).drew.trans (hb1.mono (Nat.le_refl _)); have B1 := Lib.hid (B0.out.trans (hb1a.mono B0.out.size)))
    go_wp2_with fail
    refine hK.out _ _ ?_ (fun hHeld => ?_)
    · exact ⟨R1.out.to hb1a, RO.out.to hb1a⟩
    clear hK K
    try simp only [Act.put, List.setIfInBounds_toArray, List.set_cons_zero, List.set_cons_succ]
    refine wpAnyH_ready (rs := [4]) (by kernel_rfl) (by simp) ?_
    refine AllReadyH.cons (o := _) rfl (fun K hK => ?_) AllReadyH.nil
    go_simp
    (go_at_call 35; (with_reducible refine (kd.out _ B1.out).mono ?_); rintro e2 w2 ⟨A2, c2, s2, rfl, i2, hb2⟩; have hb2a : Below w0.heap.size w0 w2 := hb1a.trans (hb2.mono hb1a.size); have B2 := Lib.hid (B0.out.trans (hb2a.mono B0.out.size)))
    go_wp2_with fail
    refine hK.out _ _ ?_ (fun hHeld => ?_)
    · exact ⟨R1.out.to hb2a, RO.out.to hb2a⟩
    clear hK K
    try simp only [Act.put, List.setIfInBounds_toArray, List.set_cons_zero, List.set_cons_succ]
    have I2 := Lib.hid (i2.more hb1a.size)
    have HC2 := Lib.hid i2.C32
    have R22 := Lib.hid (R2.out.to hb2a)
    have r12 := R1.out.to hb2a
    have ro2 := RO.out.to hb2a
    refine takeD (i := 5) (oi := _) (v := ?vv228) (d := some 16) rfl (by kernel_rfl) (by kernel_rfl) (by kernel_rfl) (by kernel_rfl) (fun _ _ _ h => h) (Or.inl ⟨by kernel_rfl, ?_⟩) (by assumption) ?_
    rotate_left 1
    · intro W_ hSw; (try dsimp only at hSw); go_simp; (first | done | with_reducible rfl)
    try simp only [Act.put, List.setIfInBounds_toArray, List.set_cons_zero, List.set_cons_succ]
    refine takeD (i := 6) (oi := _) (v := ?vv229) (d := some 17) rfl (by kernel_rfl) (by kernel_rfl) (by kernel_rfl) (by kernel_rfl) (fun _ _ _ h => h) (Or.inl ⟨by kernel_rfl, ?_⟩) (by assumption) ?_
    rotate_left 1
    · intro W_ hSw; (try dsimp only at hSw); go_simp; (first | done | with_reducible rfl)
    try simp only [Act.put, List.setIfInBounds_toArray, List.set_cons_zero, List.set_cons_succ]
    refine wpAnyH_ready (rs := [7]) (by kernel_rfl) (by simp) ?_
    refine AllReadyH.cons (o := _) rfl (fun K hK => ?_) AllReadyH.nil
    (refine step_store_var rfl 35 (.tmp 4) (.tmp 16) rfl (w.heap.size + 2) _ (agC A2 c2 s2 XX.1) 32 rfl rfl R22.out size_32 rfl HC2.out (agC_one _) ?_)
    intro w5 r5 k5
    go_simp
    refine hK.out _ _ ?_ (fun hHeld => ?_)
    · exact ⟨r12.only k5 (by omega), ro2.only k5 (by omega)⟩
    clear hK K
    try simp only [Act.put, List.setIfInBounds_toArray, List.set_cons_zero, List.set_cons_succ]
    refine takeD (i := 8) (oi := _) (v := ?vv230) (d := some 5) rfl (by kernel_rfl) (by kernel_rfl) (by kernel_rfl) (by kernel_rfl) (fun _ _ _ h => h) (Or.inl ⟨by kernel_rfl, ?_⟩) (by assumption) ?_
    rotate_left 1
    · intro W_ hSw; (try dsimp only at hSw); go_simp; (first | done | with_reducible rfl)
    try simp only [Act.put, List.setIfInBounds_toArray, List.set_cons_zero, List.set_cons_succ]
    refine wpAnyH_done (by kernel_rfl) ?_ _
    have R5 := Lib.hid r5
    have K5 := Lib.hid k5
    clear r5 k5 hb1 hb1a hb2 hb2a i2 r12 ro2 hHeld kq kd
    go_wp2
    exact bodyPost_ret (results_cell_tmp rfl _ _ (w.heap.size + 2) 35 _ (0, 0) _ rfl R5.out Try.underlying35 rfl (by rw [size_32, List.size_toArray, HC2.out])) rfl (DoesP.of ⟨A2, c2, s2, rfl, (I2.out.only K5.out (by omega)).more (by omega), K5.out.to B2.out (by omega)⟩)
  · have g0 : (v.what : Int) % 4 = 1 := hmI
    have hd : XX = g.put v.c.ow v.c.tx v.n v.x.pr := by rw [← HX.out]; unfold AOp.does; rw [if_neg (by show ¬ v.what % 4 = 0; rw [HM.out]; decide), if_pos (show v.op.what % 4 = 1 from HM.out)]; rfl
    have kd := Lib.hid (fun W (hW : Below w.heap.size w W) => agput_any W (IS.out.to hW) HR.out v.c.ow v.c.tx v.n v.x HV.out.c.ow HV.out.c.tx (HV.out.x.to hW))
    rw [← hd] at kd
    clear hmI hm4 HX hd HM o0
    have olt : w.heap.size < (w0).heap.size := RO.out.lt
    have olu : w.heap.size < (w0).heap.size + 1 := Nat.lt_succ_of_lt RO.out.lt
    have o0 : (w0).cell? ⟨w.heap.size, 0, none⟩ = some (.int .u8 (v.what : Int)) := RO.out.cells 0
    have oz0 : (w0).frozen? ⟨w.heap.size, 0, none⟩ = false := RO.out.frozen 0
    have o1 : (w0).cell? ⟨w.heap.size, 1, none⟩ = some (.int .u16 (v.c.ow : Int)) := RO.out.cells 1
    have oz1 : (w0).frozen? ⟨w.heap.size, 1, none⟩ = false := RO.out.frozen 1
    have o2 : (w0).cell? ⟨w.heap.size, 2, none⟩ = some (.int .u8 (v.c.v : Int)) := RO.out.cells 2
    have oz2 : (w0).frozen? ⟨w.heap.size, 2, none⟩ = false := RO.out.frozen 2
    have o3 : (w0).cell? ⟨w.heap.size, 3, none⟩ = some (.int .u32 (v.c.tx : Int)) := RO.out.cells 3
    have oz3 : (w0).frozen? ⟨w.heap.size, 3, none⟩ = false := RO.out.frozen 3
    have o4 : (w0).cell? ⟨w.heap.size, 4, none⟩ = some (.int .u16 (v.c.n : Int)) := RO.out.cells 4
    have oz4 : (w0).frozen? ⟨w.heap.size, 4, none⟩ = false := RO.out.frozen 4
    have o5 : (w0).cell? ⟨w.heap.size, 5, none⟩ = some (.int .u32 (v.c.ck : Int)) := RO.out.cells 5
    have oz5 : (w0).frozen? ⟨w.heap.size, 5, none⟩ = false := RO.out.frozen 5
    have o6 : (w0).cell? ⟨w.heap.size, 6, none⟩ = some (.bool v.good) := RO.out.cells 6
    have oz6 : (w0).frozen? ⟨w.heap.size, 6, none⟩ = false := RO.out.frozen 6
    have o7 : (w0).cell? ⟨w.heap.size, 7, none⟩ = some (.int .i64 v.n) := RO.out.cells 7
    have oz7 : (w0).frozen? ⟨w.heap.size, 7, none⟩ = false := RO.out.frozen 7
    have o8 : (w0).cell? ⟨w.heap.size, 8, none⟩ = some (.int .i64 v.x.a) := RO.out.cells 8
    have oz8 : (w0).frozen? ⟨w.heap.size, 8, none⟩ = false := RO.out.frozen 8
    have o9 : (w0).cell? ⟨w.heap.size, 9, none⟩ = some (.slice v.x.A v.x.ws.length v.x.c) := RO.out.cells 9
    have oz9 : (w0).frozen? ⟨w.heap.size, 9, none⟩ = false := RO.out.frozen 9
    go_wp2_with (refine wpList_load_var rfl 35 (.tmp 3) rfl (w.heap.size + 1) rfl _ _ 32 R1.out Try.underlying35 rfl size_32 HC.out ?_)
    with_reducible refine (kd.out _ B0.out).mono ?_
    rintro e1 w1 ⟨A2, c2, s2, rfl, i2, hb2⟩
    have I2 := Lib.hid i2
    have HC2 := Lib.hid i2.C32
    have R22 := Lib.hid (R2.out.to hb2)
    have B2 := Lib.hid (B0.out.trans (hb2.mono B0.out.size))
    clear i2 hb2 kd R1 R2 B0 o0 o1 o2 o3 o4 o5 o6 o7 o8 o9 oz0 oz1 oz2 oz3 oz4 oz5 oz6 oz7 oz8 oz9 RO
    go_wp2_with (refine wpList_store_var rfl 35 (.tmp 4) (.tmp 32) rfl (w.heap.size + 2) _ (agC A2 c2 s2 XX.1) 32 rfl rfl R22.out size_32 (by first | rfl | exact HCO.out) HC2.out (agC_one _) ?_; intro w_5 r_5 k_5; have R_5 := Lib.hid r_5; have K_5 := Lib.hid k_5; clear r_5 k_5)
    exact bodyPost_ret (results_cell_tmp rfl _ _ (w.heap.size + 2) 35 _ (0, 0) _ rfl R_5.out Try.underlying35 rfl (by rw [size_32, List.size_toArray, HC2.out])) rfl (DoesP.of ⟨A2, c2, s2, rfl, (I2.out.only K_5.out (by omega)).more (by omega), K_5.out.to B2.out (by omega)⟩)
  · have g0 : (v.what : Int) % 4 = 2 := hmI
    obtain ⟨t, ht⟩ : ∃ t, v.c.n % 21 = t := ⟨_, rfl⟩
    have htI : (v.c.n : Int) % 21 = (t : Int) := by omega
    have hd : XX = (g.ticks t, 0) := by rw [← HX.out, ← ht]; unfold AOp.does; rw [if_neg (by show ¬ v.what % 4 = 0; rw [HM.out]; decide), if_neg (by show ¬ v.what % 4 = 1; rw [HM.out]; decide), if_pos (show v.op.what % 4 = 2 from HM.out)]; rfl
    subst hd
    have ht21 : t < 21 := by omega
    have o4 : w0.cell? ⟨w.heap.size, 4, none⟩ = some (.int .u16 (v.c.n : Int)) := RO.out.cells 4
    clear hmI hm4 HX HM ht
    have off1 : ∀ b, w.heap.size ≤ b → AgOff b A s g := fun b hb => IS.out.off (.inr hb)
    have OFF1 := Lib.hid off1
    have I0 := Lib.hid ((IS.out.to B0.out).more (Nat.zero_le _))
    clear off1
    go_upto_region 8 with fail
    try rw [htI]
    clear o0 o4 htI g0
    go_loopw [40] (fun i wr => ∃ k : Nat, ∃ (Ak : Option Addr) (ck : Nat) (sk : Stv), k ≤ t ∧ i = .int .u16 (k : Int) ∧ Hid (RowAt wr (w.heap.size + 1) 35 (agC Ak ck sk (g.ticks k))) ∧ Hid (RowAt wr (w.heap.size + 2) 35 (agC none 0 Stv.zero Ag0)) ∧ Hid (AgIs Ak ck sk (g.ticks k) wr 0) ∧ Hid (∀ b, w.heap.size ≤ b → b < w.heap.size + 3 → AgOff b Ak sk (g.ticks k)) ∧ Hid (∀ b, b < w.heap.size → AgOff b A s g → AgOff b Ak sk (g.ticks k)) ∧ Hid (Below w.heap.size w wr) ∧ w.heap.size + 3 ≤ wr.heap.size) (fun i _ => t - (intOf i).toNat)
    case atStart => exact ⟨0, A, c, s, by omega, rfl, R1, R2, I0, Lib.hid (fun b h1 _ => OFF1.out b h1), Lib.hid (fun b _ h => h), B0, z0⟩
    case round =>
      rename World => wr
      obtain ⟨k, Ak, ck, sk, hk, rfl, Rk, R2k, Ik, OFk, OBk, Bk_, hz⟩ := hrel
      have HCk := Lib.hid Ik.out.C32
      by_cases hlt : k < t
      · have hltI : (k : Int) < (t : Int) := by omega
        have kt := Lib.hid (agtick_any wr Ik.out (HR.out.ticks k))
        go_wp2_with (refine wpList_load_var rfl 35 (.tmp 3) rfl (w.heap.size + 1) rfl _ _ 32 Rk.out Try.underlying35 rfl size_32 HCk.out ?_)
        with_reducible refine (kt.out).mono ?_
        rintro e1 w1 ⟨A2, c2, s2, rfl, i2, hb2⟩
        have I2 := Lib.hid i2
        have HC2 := Lib.hid i2.C32
        have R12 := Lib.hid (Rk.out.to hb2)
        have R22 := Lib.hid (R2k.out.to hb2)
        have B2 := Lib.hid (Bk_.out.trans (hb2.mono Bk_.out.size))
        have hz2 := hb2.size
        clear i2 hb2 kt Rk R2k
        go_upto_region 10 with (refine wpList_store_var rfl 35 (.tmp 3) (.tmp 43) rfl (w.heap.size + 1) _ (agC A2 c2 s2 (g.ticks k).tick) 32 rfl rfl R12.out size_32 HCk.out HC2.out (agC_one _) ?_; intro w_5 r_5 k_5; have R_5 := Lib.hid r_5; have K_5 := Lib.hid k_5; clear r_5 k_5)
        go_wp2
        go_roundw
        case rel => exact ⟨k + 1, A2, c2, s2, by omega, by go_num, R_5, Lib.hid (R22.out.only K_5.out (by omega)), Lib.hid ((I2.out.only K_5.out (by omega)).more (Nat.zero_le _)), Lib.hid (fun b _ hb => I2.out.off (.inl (by omega))), Lib.hid (fun b hb _ => I2.out.off (.inl (by omega))), Lib.hid (K_5.out.to B2.out (by omega)), by rw [K_5.out.size]; omega⟩
        case measure => simp [intOf]; omega
      · obtain rfl : k = t := by omega
        go_upto_region 11 with fail
        go_wp2_with (first | (refine wpList_load_var rfl 35 (.tmp 3) rfl (w.heap.size + 1) rfl _ _ 32 Rk.out Try.underlying35 rfl size_32 HCk.out ?_) | (refine wpList_store_var rfl 35 (.tmp 4) (.tmp 45) rfl (w.heap.size + 2) _ (agC Ak ck sk (g.ticks k)) 32 rfl rfl R2k.out size_32 (by first | rfl | exact HCO.out) HCk.out (agC_one _) ?_; intro w_5 r_5 k_5; have R_5 := Lib.hid r_5; have K_5 := Lib.hid k_5; clear r_5 k_5))
        exact bodyPost_ret (results_cell_tmp rfl _ _ (w.heap.size + 2) 35 _ (0, 0) _ rfl R_5.out Try.underlying35 rfl (by rw [size_32, List.size_toArray, HCk.out])) rfl ⟨Ak, ck, sk, rfl, Ik.out.onlyO K_5.out (OFk.out _ (by omega) (by omega)), OBk.out, K_5.out.to Bk_.out (by omega)⟩
  · have g0 : (v.what : Int) % 4 = 3 := hmI
    have hd : XX = (g.boot, 0) := by rw [← HX.out]; unfold AOp.does; rw [if_neg (by show ¬ v.what % 4 = 0; rw [HM.out]; decide), if_neg (by show ¬ v.what % 4 = 1; rw [HM.out]; decide), if_neg (by show ¬ v.what % 4 = 2; rw [HM.out]; decide)]
    subst hd
    have kd := Lib.hid (fun W (hW : Below w.heap.size w W) => agboot_any W (IS.out.to hW))
    clear hmI hm4 HX HM
    go_wp2_with (refine wpList_load_var rfl 35 (.tmp 3) rfl (w.heap.size + 1) rfl _ _ 32 R1.out Try.underlying35 rfl size_32 HC.out ?_)
    with_reducible refine (kd.out _ B0.out).mono ?_
    rintro e1 w1 ⟨A2, c2, s2, rfl, i2, hb2⟩
    have I2 := Lib.hid i2
    have HC2 := Lib.hid i2.C32
    have R22 := Lib.hid (R2.out.to hb2)
    have B2 := Lib.hid (B0.out.trans (hb2.mono B0.out.size))
    clear i2 hb2 kd R1 R2 B0 o0 RO
    go_wp2_with (refine wpList_store_var rfl 35 (.tmp 4) (.tmp 47) rfl (w.heap.size + 2) _ (agC A2 c2 s2 g.boot) 32 rfl rfl R22.out size_32 (by first | rfl | exact HCO.out) HC2.out (agC_one _) ?_; intro w_5 r_5 k_5; have R_5 := Lib.hid r_5; have K_5 := Lib.hid k_5; clear r_5 k_5)
    exact bodyPost_ret (results_cell_tmp rfl _ _ (w.heap.size + 2) 35 _ (0, 0) _ rfl R_5.out Try.underlying35 rfl (by rw [size_32, List.size_toArray, HC2.out])) rfl (DoesP.of ⟨A2, c2, s2, rfl, (I2.out.only K_5.out (by omega)).more (by omega), K_5.out.to B2.out (by omega)⟩)
end
end Go.Proofs.Ytajbghjjpebndaa
