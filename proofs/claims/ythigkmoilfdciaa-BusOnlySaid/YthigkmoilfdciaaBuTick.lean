/- Layer 11: Tick. -/
import Derived.Test.YthigkmoilfdciaaBuSend
namespace Go.Proofs.Ythigkmoilfdciaa
open Go.RowKit
set_option linter.unusedVariables false
set_option linter.unusedSimpArgs false
attribute [local go_sem] Later.cell Later.frozen setCell_twice
/-- a row of parcels that came -/
structure Came (w : World) (base : Nat) (A : Option Addr) (n c : Nat) (pl : List Pm) : Prop where
  len : pl.length = n
  own : w.ownsRow base 36 3 (.slice A n c) n (pl.flatMap pmF)
  byt : ∀ p ∈ pl, pmOwn w base p
  u : ∀ p ∈ pl, ∀ x ∈ p.p.b, x < 256
/-- what Tick leaves -/
def TickP (w : World) (base gs gm rg rc : Nat) (b : Bu) (E : List En) (e : Ending) (w' : World) : Prop :=
  ∃ E' A n c pl, e = .returned (.slice A n c) ∧ BusAt w' base gs gm rg rc b.tick.1 E' ∧ Fr (bfoot gs gm rg E) w w' ∧ Came w' base A n c pl ∧ Hid (pl.map Pm.p = b.tick.2 ∧ E' = (E.filter fun e => decide (e.t ≠ b.time + 1)) ∧ ((∀ p ∈ pl, ∃ e ∈ E, e.t = b.time + 1 ∧ p ∈ e.l) ∧ (∀ p, A = some p → ∃ e ∈ E, e.t = b.time + 1 ∧ e.g = p.block) ∧ ((byts E).Nodup → (pl.map Pm.g ++ byts E').Nodup)))
theorem byts_filter (P : En → Bool) : ∀ E : List En, (byts (E.filter P)).Sublist (byts E)
  | [] => List.Sublist.refl _
  | a :: E => by
    have ih := byts_filter P E
    unfold byts at ih ⊢
    rw [List.flatMap_cons]
    by_cases h : P a = true
    · rw [List.filter_cons_of_pos h, List.flatMap_cons]
      exact List.Sublist.append_left ih _
    · rw [List.filter_cons_of_neg h]
      exact ih.trans (List.sublist_append_right _ _)
theorem byts_drop (P : En → Bool) : ∀ (E : List En) (e : En), e ∈ E → P e = false → (byts E).Nodup → (e.l.map Pm.g ++ byts (E.filter P)).Nodup
  | [], e, h, _, _ => by cases h
  | a :: E, e, h, hP, hn => by
    have hsub := byts_filter P E
    have e1 : byts (a :: E) = a.l.map Pm.g ++ byts E := by unfold byts; rw [List.flatMap_cons]
    rw [e1] at hn
    rcases List.mem_cons.1 h with rfl | h
    · have e2 : (e :: E).filter P = E.filter P := List.filter_cons_of_neg (by simp [hP])
      rw [e2]
      exact hn.sublist (List.Sublist.append_left hsub _)
    · obtain ⟨n1, n2, n3⟩ := List.nodup_append.1 hn
      have ih := byts_drop P E e h hP n2
      by_cases hp : P a = true
      · have e2 : byts ((a :: E).filter P) = a.l.map Pm.g ++ byts (E.filter P) := by rw [List.filter_cons_of_pos hp]; unfold byts; rw [List.flatMap_cons]
        rw [e2]
        have hperm : (e.l.map Pm.g ++ (a.l.map Pm.g ++ byts (E.filter P))).Perm (a.l.map Pm.g ++ (e.l.map Pm.g ++ byts (E.filter P))) := by
          rw [← List.append_assoc, ← List.append_assoc]
          exact List.Perm.append_right _ List.perm_append_comm
        refine hperm.nodup_iff.2 (List.nodup_append.2 ⟨n1, ih, fun x hx y hy => n3 x hx y ?_⟩)
        rcases List.mem_append.1 hy with hy | hy
        · unfold byts
          exact List.mem_flatMap.2 ⟨e, h, hy⟩
        · exact hsub.subset hy
      · rw [List.filter_cons_of_neg hp]
        exact ih
theorem foot_filter {gs gm rg : Nat} {E : List En} {P : En → Bool} : ∀ x, x ∈ bfoot gs gm rg (E.filter P) → x ∈ bfoot gs gm rg E := fun x hx => by
  rcases bfoot_mem.1 hx with h | h | h | ⟨e, he, h⟩
  · exact bfoot_mem.2 (.inl h)
  · exact bfoot_mem.2 (.inr (.inl h))
  · exact bfoot_mem.2 (.inr (.inr (.inl h)))
  · exact bfoot_mem.2 (.inr (.inr (.inr ⟨e, (List.mem_filter.1 he).1, h⟩)))
theorem Pure.tick {b : Bu} {E : List En} (h : Pure b E) : Pure b.tick.1 (E.filter fun e => decide (e.t ≠ b.time + 1)) := by
  refine ⟨fun e he => ?_, fun q hq => ?_, fun q hq => ?_, fun e he => h.ne e (List.mem_filter.1 he).1⟩
  · obtain ⟨he, hne⟩ := List.mem_filter.1 he
    have hne' : e.t ≠ b.time + 1 := of_decide_eq_true hne
    rw [h.is e he]
    unfold Bu.at_ Bu.tick
    rw [List.filter_filter]
    congr 1
    apply List.filter_congr
    intro q _
    by_cases hq : q.1 = e.t
    · simp [hq, hne']
    · simp [hq]
  · obtain ⟨hq, hne⟩ := List.mem_filter.1 hq
    obtain ⟨e, he, ht⟩ := h.all q hq
    exact ⟨e, List.mem_filter.2 ⟨he, by rw [ht]; exact hne⟩, ht⟩
  · obtain ⟨hq, hne⟩ := List.mem_filter.1 hq
    have h1 := h.late q hq
    have h2 : q.1 ≠ b.time + 1 := of_decide_eq_true hne
    show b.time + 1 < q.1
    omega
theorem wpList_drop {w : World} {gm t : Nat} {E : List En} {ops : Array Oper} {rest : List Oper} {o : Oper} {a : Act} {Q : Exit → Act → World → Prop} (hgd : o.guard = none) (m x : Operand) (ho : o.op = .call { callee := .builtin .delete, args := #[m, x], argTypes := #[60, 3] })
    (hm : a.eval m = .map (some gm)) (hx : a.eval x = .int .i64 (t : Int)) (h : EnMap w gm E) (hk : (E.map En.t).Nodup)
    (hK : ∀ w', EnMap w' gm (E.filter fun e => decide (e.t ≠ t)) → Only gm w w' → wpList Try.prog ops Q rest (a.put o.dst (.tuple #[])) w') : wpList Try.prog ops Q (o :: rest) a w := by
  refine wpList_plain hgd fun K hK' => ?_
  obtain ⟨w', hrun, h1, h2⟩ := run_drop_en h t hk o.type
  unfold Oper.wp execOp
  simp only [ho, resolve, invoke, builtin, Sem.run_bind, Sem.run_pure, Result.andThen_ok, List.map_toArray, List.map_cons, List.map_nil, hm, hx, hrun]
  exact hK' _ _ (hK w' h1 h2)
theorem Parts.row_keep {w w4 w5 : World} {base gs gm rg rc : Nat} {rtu : List Bool} {E : List En} {C : List Value} {e : En} (h : Parts w base gm rg rc rtu E) (he : e ∈ E) (o1 : Only gm w w4) (r4 : RowAt w4 gs 62 C) (o2 : Only gs w4 w5) :
    w5.ownsRow base 36 3 (.slice (some ⟨e.g, 0, none⟩) e.l.length e.c) e.l.length (e.l.flatMap pmF) ∧ ∀ p ∈ e.l, pmOwn w5 base p := by
  obtain ⟨es, clock, hmi, _⟩ := h.map
  have lift : ∀ {t s n c g : Nat} {xs : List Value}, t ≠ 62 → w.ownsRow base t s (.slice (some ⟨g, 0, none⟩) n c) n xs → w5.ownsRow base t s (.slice (some ⟨g, 0, none⟩) n c) n xs := fun ht ho => by
    have h4 := (Fr.of_only o1 (List.mem_singleton.2 rfl) : Fr [gm] w w4).own ho (fun p hp hm => by
      obtain rfl := Option.some.inj hp
      exact own_map_ne ho hmi (List.mem_singleton.1 hm))
    exact (Fr.of_only o2 (List.mem_singleton.2 rfl) : Fr [gs] w4 w5).own h4 (fun p hp hm => by
      obtain rfl := Option.some.inj hp
      exact own_row_ne h4 r4 ht (List.mem_singleton.1 hm))
  exact ⟨lift (by decide) (h.own e he), fun p hp => lift (by decide) (h.byt e he p hp)⟩
set_option maxRecDepth 100000 in
set_option maxHeartbeats 4000000 in
theorem tick_any {w : World} {base gs gm rg rc : Nat} {b : Bu} {E : List En} (h : BusAt w base gs gm rg rc b E) (htm : b.time ≤ 100000) (hln : b.l.length ≤ 100000) :
    Calls Try.prog 13 #[.pointer (some ⟨gs, 0, none⟩)] w (TickP w base gs gm rg rc b E) := by
  have HW := Lib.hid h
  clear h
  obtain ⟨T, hT⟩ : ∃ T, b.time + 1 = T := ⟨_, rfl⟩
  have hTI : (b.time : Int) + 1 = (T : Int) := by omega
  have HT := Lib.hid hT
  clear hT
  go_enter Try.func13, Try.ntmps13
  go_wp2_with fail
  (with_reducible refine (made_yes HW.out).mono ?_)
  rintro e w1 ⟨rfl, rfl⟩
  have HROW := Lib.hid HW.out.row
  have plt : gs < (w).heap.size := HROW.out.lt
  have plu : gs < (w).heap.size + 1 := Nat.lt_succ_of_lt HROW.out.lt
  have p0 : (w).cell? ⟨gs, 0, none⟩ = some (.pointer (some ⟨gs, 0, none⟩)) := HROW.out.cells 0
  have pz0 : (w).frozen? ⟨gs, 0, none⟩ = false := HROW.out.frozen 0
  have p1 : (w).cell? ⟨gs, 1, none⟩ = some (.slice (some ⟨rg, 0, none⟩) b.rtu.length rc) := HROW.out.cells 1
  have pz1 : (w).frozen? ⟨gs, 1, none⟩ = false := HROW.out.frozen 1
  have p2 : (w).cell? ⟨gs, 2, none⟩ = some (.int .i64 (b.time : Int)) := HROW.out.cells 2
  have pz2 : (w).frozen? ⟨gs, 2, none⟩ = false := HROW.out.frozen 2
  have p3 : (w).cell? ⟨gs, 3, none⟩ = some (.int .i64 (b.l.length : Int)) := HROW.out.cells 3
  have pz3 : (w).frozen? ⟨gs, 3, none⟩ = false := HROW.out.frozen 3
  have p4 : (w).cell? ⟨gs, 4, none⟩ = some (.map (some gm)) := HROW.out.cells 4
  have pz4 : (w).frozen? ⟨gs, 4, none⟩ = false := HROW.out.frozen 4
  go_upto_region 4 with fail
  obtain ⟨w1, hw1⟩ : ∃ w1, w.setCell ⟨gs, 2, none⟩ (.int .i64 (T : Int)) = w1 := ⟨_, rfl⟩
  have o1 : Only gs w w1 := by rw [← hw1]; exact (Only.refl _ _).set _
  have R1 : Hid (RowAt w1 gs 62 [.pointer (some ⟨gs, 0, none⟩), .slice (some ⟨rg, 0, none⟩) b.rtu.length rc, .int .i64 (T : Int), .int .i64 (b.l.length : Int), .map (some gm)]) := Lib.hid (by rw [← hw1]; exact HROW.out.set 2 (.int .i64 (T : Int)))
  have P1 := Lib.hid (HW.out.parts.fr (Fr.of_only o1 (List.mem_singleton.2 rfl)) (HW.out.parts.ne_gs HW.out.row))
  have F1 : Hid (Fr (bfoot gs gm rg E) w w1) := Lib.hid (Fr.of_only o1 (bfoot_mem.2 (.inl rfl)))
  rw [hw1]
  clear hw1 o1 p0 p1 p2 p3 p4 pz0 pz1 pz2 pz3 pz4 plt plu HROW hTI
  have plt : gs < (w1).heap.size := R1.out.lt
  have plu : gs < (w1).heap.size + 1 := Nat.lt_succ_of_lt R1.out.lt
  have p0 : (w1).cell? ⟨gs, 0, none⟩ = some (.pointer (some ⟨gs, 0, none⟩)) := R1.out.cells 0
  have pz0 : (w1).frozen? ⟨gs, 0, none⟩ = false := R1.out.frozen 0
  have p1 : (w1).cell? ⟨gs, 1, none⟩ = some (.slice (some ⟨rg, 0, none⟩) b.rtu.length rc) := R1.out.cells 1
  have pz1 : (w1).frozen? ⟨gs, 1, none⟩ = false := R1.out.frozen 1
  have p2 : (w1).cell? ⟨gs, 2, none⟩ = some (.int .i64 (T : Int)) := R1.out.cells 2
  have pz2 : (w1).frozen? ⟨gs, 2, none⟩ = false := R1.out.frozen 2
  have p3 : (w1).cell? ⟨gs, 3, none⟩ = some (.int .i64 (b.l.length : Int)) := R1.out.cells 3
  have pz3 : (w1).frozen? ⟨gs, 3, none⟩ = false := R1.out.frozen 3
  have p4 : (w1).cell? ⟨gs, 4, none⟩ = some (.map (some gm)) := R1.out.cells 4
  have pz4 : (w1).frozen? ⟨gs, 4, none⟩ = false := R1.out.frozen 4
  obtain ⟨v, hv, hcase⟩ := run_look_en P1.out.map T
  have hvq : ∀ q, (Instr.lookup 60 (.map (some gm)) (.int .i64 (T : Int)) false).run Try.prog (w1.drewN q) = .ok v (w1.drewN q) := fun q => look_same (w := w1.drewN q) (P1.out.map.fr (F := []) (Fr.of_below _ (bel_drewN (Below.refl _ _) _)) (by simp)) P1.out.keys hcase
  have HC := Lib.hid hcase
  clear hcase hv
  go_quiet (fail)
  obtain ⟨w2, hw2⟩ : ∃ w2, w1.drewN nq = w2 := ⟨_, rfl⟩
  have b2 : Below w1.heap.size w1 w2 := by rw [← hw2]; exact bel_drewN (Below.refl _ _) _
  have R2 := Lib.hid (R1.out.to b2)
  have P2 := Lib.hid (P1.out.to b2)
  have F2 : Hid (Fr (bfoot gs gm rg E) w w2) := Lib.hid (F1.out.trans (Fr.of_below (bfoot gs gm rg E) b2) (fun _ h => .inl h))
  rw [hw2]
  clear hw2 b2 R1 P1 F1 hvq p0 p1 p2 p3 p4 pz0 pz1 pz2 pz3 pz4 plt plu
  have plt : gs < (w2).heap.size := R2.out.lt
  have plu : gs < (w2).heap.size + 1 := Nat.lt_succ_of_lt R2.out.lt
  have p0 : (w2).cell? ⟨gs, 0, none⟩ = some (.pointer (some ⟨gs, 0, none⟩)) := R2.out.cells 0
  have pz0 : (w2).frozen? ⟨gs, 0, none⟩ = false := R2.out.frozen 0
  have p1 : (w2).cell? ⟨gs, 1, none⟩ = some (.slice (some ⟨rg, 0, none⟩) b.rtu.length rc) := R2.out.cells 1
  have pz1 : (w2).frozen? ⟨gs, 1, none⟩ = false := R2.out.frozen 1
  have p2 : (w2).cell? ⟨gs, 2, none⟩ = some (.int .i64 (T : Int)) := R2.out.cells 2
  have pz2 : (w2).frozen? ⟨gs, 2, none⟩ = false := R2.out.frozen 2
  have p3 : (w2).cell? ⟨gs, 3, none⟩ = some (.int .i64 (b.l.length : Int)) := R2.out.cells 3
  have pz3 : (w2).frozen? ⟨gs, 3, none⟩ = false := R2.out.frozen 3
  have p4 : (w2).cell? ⟨gs, 4, none⟩ = some (.map (some gm)) := R2.out.cells 4
  have pz4 : (w2).frozen? ⟨gs, 4, none⟩ = false := R2.out.frozen 4
  go_upto_region 5 with fail
  go_still_tail 8, (by kernel_rfl)
  change wpList _ _ _ _ _ w2.drew
  have b3 : Below w2.heap.size w2 w2.drew := (Below.refl _ _).drew
  have P3 := Lib.hid (P2.out.to b3)
  have R3 := Lib.hid (R2.out.to b3)
  have F3 : Hid (Fr (bfoot gs gm rg E) w w2.drew) := Lib.hid (F2.out.trans (Fr.of_below (bfoot gs gm rg E) b3) (fun _ h => .inl h))
  refine wpList_drop rfl (.tmp 26) (.tmp 30) rfl rfl rfl P3.out.map P3.out.keys ?_
  intro w4 hm4 ho4
  have P4 := Lib.hid (P3.out.drop T ho4 hm4)
  have hgsm : gs ≠ gm := row_map_ne HW.out.row HW.out.parts.map
  have R4 := Lib.hid (R3.out.only ho4 hgsm)
  have F4 : Hid (Fr (bfoot gs gm rg E) w w4) := Lib.hid (F3.out.trans (Fr.of_only ho4 (bfoot_mem.2 (.inr (.inl rfl)))) (fun _ h => .inl h))
  have OM := Lib.hid ho4
  clear hm4 ho4 b3 P2 R2 F2 R3 F3 p0 p1 p2 p3 p4 pz0 pz1 pz2 pz3 pz4 plt plu
  have plt : gs < (w4).heap.size := R4.out.lt
  have plu : gs < (w4).heap.size + 1 := Nat.lt_succ_of_lt R4.out.lt
  have p0 : (w4).cell? ⟨gs, 0, none⟩ = some (.pointer (some ⟨gs, 0, none⟩)) := R4.out.cells 0
  have pz0 : (w4).frozen? ⟨gs, 0, none⟩ = false := R4.out.frozen 0
  have p1 : (w4).cell? ⟨gs, 1, none⟩ = some (.slice (some ⟨rg, 0, none⟩) b.rtu.length rc) := R4.out.cells 1
  have pz1 : (w4).frozen? ⟨gs, 1, none⟩ = false := R4.out.frozen 1
  have p2 : (w4).cell? ⟨gs, 2, none⟩ = some (.int .i64 (T : Int)) := R4.out.cells 2
  have pz2 : (w4).frozen? ⟨gs, 2, none⟩ = false := R4.out.frozen 2
  have p3 : (w4).cell? ⟨gs, 3, none⟩ = some (.int .i64 (b.l.length : Int)) := R4.out.cells 3
  have pz3 : (w4).frozen? ⟨gs, 3, none⟩ = false := R4.out.frozen 3
  have p4 : (w4).cell? ⟨gs, 4, none⟩ = some (.map (some gm)) := R4.out.cells 4
  have pz4 : (w4).frozen? ⟨gs, 4, none⟩ = false := R4.out.frozen 4
  have HTL := Lib.hid (Bu.tick_len b)
  obtain ⟨L', hL'⟩ : ∃ L', b.tick.1.l.length = L' := ⟨_, rfl⟩
  have HL' := Lib.hid hL'
  have PT : Hid (Pure b.tick.1 (E.filter fun e => decide (e.t ≠ T))) := Lib.hid (by rw [← HT.out]; exact HW.out.pure.tick)
  have HB1 : Hid (b.tick.1.rtu = b.rtu ∧ b.tick.1.time = T) := Lib.hid ⟨rfl, HT.out⟩
  clear hL'
  have hgsb := HW.out.gsb
  rcases HC.out with ⟨rfl, hno⟩ | ⟨j, e, he, het, rfl⟩
  · have HT2 : Hid (b.tick.2 = []) := Lib.hid (by
      have h := HW.out.pure.none (t := T) hno
      rw [← HT.out] at h
      exact h)
    have HLL : Hid (b.l.length = L') := Lib.hid (by have h1 := HTL.out; have h2 := HL'.out; have h3 := congrArg List.length HT2.out; simp only [List.length_nil] at h3; omega)
    have hno' := Lib.hid hno
    clear hno
    go_wp2
    go_ret
    have o5 : Only gs w4 (w4.setCell ⟨gs, 3, none⟩ (.int .i64 (b.l.length : Int))) := (Only.refl gs w4).set _
    have hr := R4.out.set 3 (.int .i64 (b.l.length : Int))
    rw [HLL.out, ← HT.out, ← HL'.out] at hr
    refine ⟨E.filter fun e => decide (e.t ≠ T), none, 0, 0, [], rfl, BusAt.mk' (by rw [HLL.out, ← HL'.out]; exact hr) (P4.out.fr (Fr.of_only o5 (List.mem_singleton.2 rfl)) (P4.out.ne_gs R4.out)) PT.out hgsb, F4.out.trans (F' := bfoot gs gm rg E) (Fr.of_only o5 (bfoot_mem.2 (.inl rfl))) (fun _ h => .inl h), ⟨rfl, World.ownsRow_nil _ _ _ _, by simp, by simp⟩, Lib.hid ⟨HT2.out.symm, by rw [HT.out], by simp, by simp, fun hn => by rw [List.map_nil, List.nil_append]; exact hn.sublist (byts_filter _ E)⟩⟩
  · have hem := List.mem_of_getElem? he
    obtain ⟨N, hN⟩ : ∃ N, e.l.length = N := ⟨_, rfl⟩
    have HN := Lib.hid hN
    have hev : e.v = .slice (some ⟨e.g, 0, none⟩) N e.c := by unfold En.v; rw [hN]
    have HT2 : Hid (b.tick.2 = e.l.map Pm.p) := Lib.hid (by
      have h := HW.out.is e hem
      rw [het, ← HT.out] at h
      exact h.symm)
    have hNL : N ≤ b.l.length := by have h1 := HTL.out; have h3 := congrArg List.length HT2.out; rw [List.length_map, hN] at h3; omega
    have hLI : (b.l.length : Int) - (N : Int) = (L' : Int) := by have h1 := HTL.out; have h2 := HL'.out; have h3 := congrArg List.length HT2.out; rw [List.length_map, hN] at h3; omega
    have HEM := Lib.hid hem
    have HET := Lib.hid het
    rw [hev]
    clear hem hN hev he het
    go_wp2
    go_ret
    have o5 : Only gs w4 (w4.setCell ⟨gs, 3, none⟩ (.int .i64 (L' : Int))) := (Only.refl gs w4).set _
    have hr := R4.out.set 3 (.int .i64 (L' : Int))
    rw [← HT.out, ← HL'.out] at hr
    have hk := P3.out.row_keep HEM.out OM.out R4.out o5
    refine ⟨E.filter fun e => decide (e.t ≠ T), some ⟨e.g, 0, none⟩, N, e.c, e.l, rfl, BusAt.mk' (by rw [← HL'.out]; exact hr) (P4.out.fr (Fr.of_only o5 (List.mem_singleton.2 rfl)) (P4.out.ne_gs R4.out)) PT.out hgsb, F4.out.trans (F' := bfoot gs gm rg E) (Fr.of_only o5 (bfoot_mem.2 (.inl rfl))) (fun _ h => .inl h), ⟨HN.out, by have h := hk.1; rw [HN.out] at h; exact h, hk.2, fun p hp => HW.out.parts.u e HEM.out p hp⟩, Lib.hid ⟨HT2.out.symm, by rw [HT.out], fun p hp => ⟨e, HEM.out, HET.out.trans HT.out.symm, hp⟩, fun p hp => ⟨e, HEM.out, HET.out.trans HT.out.symm, by rw [← Option.some.inj hp]⟩, fun hn => byts_drop _ E e HEM.out (decide_eq_false (fun hne => hne HET.out)) hn⟩⟩
end Go.Proofs.Ythigkmoilfdciaa
