/- Layer 11: add. -/
import Derived.Test.YthigkmoilfdciaaBuInv
import Derived.Deep.AppendLies
import Derived.Test.YthigkmoilfdciaaOlist
namespace Go.Proofs.Ythigkmoilfdciaa
open Go.RowKit
set_option linter.unusedVariables false
set_option linter.unusedSimpArgs false
attribute [local go_sem] Later.cell Later.frozen setCell_twice
theorem step_append_own_at {P : Program} {w : World} {ops : Array Oper} {o : Oper} {a : Act} {K : Act → World → Prop} {Q : Exit → Act → World → Prop} {E : Prop} (hgd : o.guard = none) (s x : Operand) (t : TypeId)
    (ho : o.op = .call { callee := .builtin .append, args := #[s, x], argTypes := #[t, t] })
    (base : Nat) (e : TypeId) (i : TypeInfo) (z : Value) (size bytes : Nat) (ht : P.underlying t = some (.slice e)) (hi : P.info? e = some i) (hz : i.zero = some z)
    (hsize : i.size = size) (hby : i.bytes = bytes) (hzs : z.cells.size = size) (hsz : 0 < size)
    (v : Value) (n : Nat) (xs : List Value) (hs : a.eval s = v) (hown : w.ownsRow base e size v n xs)
    (ad : Addr) (m c : Nat) (news : List Value) (hx : a.eval x = .slice (some ad) m c) (hl : news.length = m * size) (hnews : ∀ j u, news[j]? = some u → w.cell? (ad.add j) = some u) (h1 : ∀ u ∈ news, u.oneCell' = true)
    (h63 : n + m ≤ maxLen) (hbytes : (n + m) * bytes ≤ 140737488355328) (hbase : base ≤ w.heap.size)
    (h : ∀ A' c' w', w'.ownsRow base e size (.slice A' (n + m) c') (n + m) (xs ++ news) → w.grownBy w' v.ownBlock → ((Value.slice A' (n + m) c').ownBlock = v.ownBlock ∨ (Value.slice A' (n + m) c').ownBlock = some w.heap.size) → K (a.put o.dst (.slice A' (n + m) c')) w') :
    if Region.wanted o (yielded ops a.tmps) = true then Oper.wp P o a w K Q else E := by
  have hw : Region.wanted o (yielded ops a.tmps) = true := by simp [Region.wanted, hgd]
  rw [if_pos hw]
  obtain ⟨v', w', hr, h2, h3, _, h5⟩ := run_append_own_at (P := P) w base t o.type e i z size bytes ht hi hz hsize hby hzs hsz v n xs hown ad m c news hl hnews h1 h63 hbytes hbase
  unfold Oper.wp execOp
  simp only [ho, resolve, invoke, builtin, Sem.run_bind, Sem.run_pure, Result.andThen_ok, List.map_toArray, List.map_cons, List.map_nil, hs, hx, hr]
  have hf : ∃ A' c', v' = .slice A' (n + m) c' := by
    rcases h2.2 with ⟨rfl, h0⟩ | ⟨g, cap, cur, rfl, _⟩
    · exact ⟨none, 0, by rw [h0]⟩
    · exact ⟨_, _, rfl⟩
  obtain ⟨A', c', rfl⟩ := hf
  exact h A' c' w' h2 h3 h5
theorem step_mapUpdate {P : Program} {w : World} {ops : Array Oper} {o : Oper} {a : Act} {K : Act → World → Prop} {Q : Exit → Act → World → Prop} {E : Prop} (hgd : o.guard = none) (t : TypeId) (m x y : Operand) (ho : o.op = .mapUpdate t m x y) (mv kv vv : Value) (hm : a.eval m = mv) (hx : a.eval x = kv) (hy : a.eval y = vv) (w' : World) (hrun : (Instr.mapUpdate t mv kv vv).run P w = .ok () w')
    (h : K (a.put o.dst undef) w') : if Region.wanted o (yielded ops a.tmps) = true then Oper.wp P o a w K Q else E := by
  have hw : Region.wanted o (yielded ops a.tmps) = true := by simp [Region.wanted, hgd]
  rw [if_pos hw]
  unfold Oper.wp
  simp [execOp, ho, hm, hx, hy, hrun, Result.andThen]
  exact h
theorem look_same {w : World} {gm : Nat} {E : List En} {t : Nat} {v : Value} (h : EnMap w gm E) (hk : (E.map En.t).Nodup) (hc : (v = .slice none 0 0 ∧ ∀ e ∈ E, e.t ≠ t) ∨ ∃ (j : Nat) (e : En), E[j]? = some e ∧ e.t = t ∧ v = e.v) : (Instr.lookup 60 (.map (some gm)) (.int .i64 (t : Int)) false).run Try.prog w = .ok v w := by
  obtain ⟨v', hv', hcase'⟩ := run_look_en h t
  rw [hv']
  congr 1
  rcases hc with ⟨rfl, hno⟩ | ⟨j, e, he, het, rfl⟩
  · rcases hcase' with ⟨rfl, _⟩ | ⟨j, e, he, het, _⟩
    · rfl
    · exact absurd het (hno e (List.mem_of_getElem? he))
  · rcases hcase' with ⟨rfl, hno⟩ | ⟨j', e', he', het', rfl⟩
    · exact absurd het (hno e (List.mem_of_getElem? he))
    · have : j = j' := by
        refine (List.getElem?_inj (by have := (List.getElem?_eq_some_iff.1 he).1; simpa using this) hk).1 ?_
        rw [List.getElem?_map, List.getElem?_map, he, he']
        show some e.t = some e'.t
        rw [het, het']
      subst this
      rw [he] at he'
      rw [Option.some.inj he']
theorem size_par : (Try.prog.info? 71).map (·.size) = some 3 := by kernel_rfl
theorem range_below' {w w' : World} {B b o : Nat} {cs : List Value} (h : w.rangeAt b o cs) (k : Below B w w') (hb : b < B) : w'.rangeAt b o cs := fun j v hv => (k.cell (p := ⟨b, o + j, none⟩) hb).trans (h j v hv)
theorem info_parcel : (Try.prog.info? 36).map (fun i => (i.zero, i.size, i.bytes)) = some (some (.agg #[.int .i64 0, .bool false, .slice none 0 0]), 3, 40) := by kernel_rfl
/-- what add leaves -/
def byts (E : List En) : List Nat := E.flatMap fun e => e.l.map Pm.g
theorem byts_set : ∀ (E : List En) (j : Nat) (e : En) (t g c : Nat) (pm : Pm), E[j]? = some e → (byts (E.set j ⟨t, g, c, e.l ++ [pm]⟩)).Perm (byts E ++ [pm.g])
  | [], j, e, t, g, c, pm, h => by simp at h
  | a :: E, 0, e, t, g, c, pm, h => by
    obtain rfl : a = e := by simpa using h
    unfold byts
    rw [List.set_cons_zero, List.flatMap_cons, List.flatMap_cons, List.map_append, List.append_assoc, List.append_assoc]
    exact List.Perm.append_left _ List.perm_append_comm
  | a :: E, j + 1, e, t, g, c, pm, h => by
    have ih := byts_set E j e t g c pm (by simpa using h)
    unfold byts at ih ⊢
    rw [List.set_cons_succ, List.flatMap_cons, List.flatMap_cons, List.append_assoc]
    exact List.Perm.append_left _ ih
theorem byts_new (E : List En) (t g c : Nat) (pm : Pm) : (byts (E ++ [⟨t, g, c, [pm]⟩])).Perm (byts E ++ [pm.g]) := by
  unfold byts
  rw [List.flatMap_append]
  exact List.Perm.refl _
def AddP (w : World) (base gs gm rg rc : Nat) (b : Bu) (E : List En) (t : Nat) (pm : Pm) (e : Ending) (w' : World) : Prop :=
  ∃ E', e = .returned (.tuple #[]) ∧ BusAt w' base gs gm rg rc ⟨b.rtu, b.time, b.l ++ [(t, pm.p)]⟩ E' ∧ Fr (bfoot gs gm rg E) w w' ∧ (∀ x, x ∈ bfoot gs gm rg E' → x ∈ bfoot gs gm rg E ∨ x = pm.g ∨ w.heap.size ≤ x) ∧ (byts E').Perm (byts E ++ [pm.g])
structure Pure (b : Bu) (E : List En) : Prop where
  is : ∀ e ∈ E, e.l.map Pm.p = b.at_ e.t
  all : ∀ q ∈ b.l, ∃ e ∈ E, e.t = q.1
  late : ∀ q ∈ b.l, b.time < q.1
  ne : ∀ e ∈ E, e.l ≠ []
theorem Pure.none {b : Bu} {E : List En} {t : Nat} (h : Pure b E) (hno : ∀ e ∈ E, e.t ≠ t) : b.at_ t = [] := by
  unfold Bu.at_
  rw [List.map_eq_nil_iff, List.filter_eq_nil_iff]
  intro q hq
  obtain ⟨e, he, ht⟩ := h.all q hq
  have := hno e he
  simp only [decide_eq_true_eq]
  omega
theorem Pure.new {b : Bu} {E : List En} {t g c : Nat} {pm : Pm} (h : Pure b E) (hno : ∀ e ∈ E, e.t ≠ t) (ht : b.time < t) : Pure ⟨b.rtu, b.time, b.l ++ [(t, pm.p)]⟩ (E ++ [⟨t, g, c, [pm]⟩]) := by
  refine ⟨fun e he => ?_, fun q hq => ?_, fun q hq => ?_, fun e he => ?_⟩
  · rw [Bu.at_snoc]
    rcases List.mem_append.1 he with he | he
    · rw [if_neg (fun hh => hno e he hh.symm), List.append_nil]
      exact h.is e he
    · obtain rfl := List.mem_singleton.1 he
      have h2 : Bu.at_ ⟨b.rtu, b.time, b.l⟩ t = [] := h.none hno
      rw [if_pos rfl, h2]
      rfl
  · rcases List.mem_append.1 hq with hq | hq
    · obtain ⟨e, he, h1⟩ := h.all q hq
      exact ⟨e, List.mem_append_left _ he, h1⟩
    · obtain rfl := List.mem_singleton.1 hq
      exact ⟨_, List.mem_append_right _ (List.mem_singleton.2 rfl), rfl⟩
  · rcases List.mem_append.1 hq with hq | hq
    · exact h.late q hq
    · obtain rfl := List.mem_singleton.1 hq; exact ht
  · rcases List.mem_append.1 he with he | he
    · exact h.ne e he
    · obtain rfl := List.mem_singleton.1 he; simp
theorem Pure.old {b : Bu} {E : List En} {j g c : Nat} {e0 : En} {pm : Pm} (h : Pure b E) (he0 : E[j]? = some e0) (hk : (E.map En.t).Nodup) (ht : b.time < e0.t) : Pure ⟨b.rtu, b.time, b.l ++ [(e0.t, pm.p)]⟩ (E.set j ⟨e0.t, g, c, e0.l ++ [pm]⟩) := by
  have hjl : j < E.length := (List.getElem?_eq_some_iff.1 he0).1
  have key : ∀ e ∈ E.set j ⟨e0.t, g, c, e0.l ++ [pm]⟩, e = ⟨e0.t, g, c, e0.l ++ [pm]⟩ ∨ (e ∈ E ∧ e.t ≠ e0.t) := fun e he => by
    obtain ⟨i, hi⟩ := List.getElem?_of_mem he
    rw [List.getElem?_set] at hi
    by_cases hij : j = i
    · subst hij
      rw [if_pos rfl, if_pos hjl] at hi
      exact .inl (Option.some.inj hi).symm
    · rw [if_neg hij] at hi
      refine .inr ⟨List.mem_of_getElem? hi, fun hh => hij ?_⟩
      refine (List.getElem?_inj (by simpa using hjl) hk).1 ?_
      rw [List.getElem?_map, List.getElem?_map, he0, hi]
      show some e0.t = some e.t
      rw [hh]
  refine ⟨fun e he => ?_, fun q hq => ?_, fun q hq => ?_, fun e he => ?_⟩
  · rw [Bu.at_snoc]
    rcases key e he with rfl | ⟨he, hne⟩
    · rw [if_pos rfl, List.map_append]
      exact congrArg (· ++ [pm.p]) (h.is e0 (List.mem_of_getElem? he0))
    · rw [if_neg (fun hh => hne hh.symm), List.append_nil]
      exact h.is e he
  · have hin : (⟨e0.t, g, c, e0.l ++ [pm]⟩ : En) ∈ E.set j ⟨e0.t, g, c, e0.l ++ [pm]⟩ := List.mem_of_getElem? (i := j) (by rw [List.getElem?_set_self hjl])
    rcases List.mem_append.1 hq with hq | hq
    · obtain ⟨e, he, h1⟩ := h.all q hq
      obtain ⟨i, hi⟩ := List.getElem?_of_mem he
      by_cases hij : j = i
      · subst hij
        rw [he0] at hi
        obtain rfl := Option.some.inj hi
        exact ⟨_, hin, h1⟩
      · exact ⟨e, List.mem_of_getElem? (i := i) (by rw [List.getElem?_set_ne hij]; exact hi), h1⟩
    · obtain rfl := List.mem_singleton.1 hq
      exact ⟨_, hin, rfl⟩
  · rcases List.mem_append.1 hq with hq | hq
    · exact h.late q hq
    · obtain rfl := List.mem_singleton.1 hq; exact ht
  · rcases key e he with rfl | ⟨he, _⟩
    · simp
    · exact h.ne e he
theorem BusAt.pure {w : World} {base gs gm rg rc : Nat} {b : Bu} {E : List En} (h : BusAt w base gs gm rg rc b E) : Pure b E := ⟨h.is, h.all, h.late, h.ne⟩
theorem BusAt.mk' {w : World} {base gs gm rg rc : Nat} {b : Bu} {E : List En} (hr : RowAt w gs 62 [.pointer (some ⟨gs, 0, none⟩), .slice (some ⟨rg, 0, none⟩) b.rtu.length rc, .int .i64 (b.time : Int), .int .i64 (b.l.length : Int), .map (some gm)]) (hp : Parts w base gm rg rc b.rtu E) (h : Pure b E) (hg : base ≤ gs) : BusAt w base gs gm rg rc b E := ⟨hr, hp, h.is, h.all, h.late, h.ne, hg⟩
theorem row_map_ne {w : World} {gs gm T : Nat} {C : List Value} {E : List En} (h : RowAt w gs T C) (hm : EnMap w gm E) : gs ≠ gm := by
  rintro rfl
  obtain ⟨es, clock, h1, _⟩ := hm
  have h2 := (show w.heap[gs]? = _ from h).symm.trans h1
  cases h2
theorem Parts.ne_gs {w : World} {base gs gm rg rc : Nat} {rtu : List Bool} {E : List En} {C : List Value} (h : Parts w base gm rg rc rtu E) (hr : RowAt w gs 62 C) : ∀ x, x ∈ bfoot gm gm rg E → x ∉ [gs] := by
  intro x hx hm
  obtain rfl := List.mem_singleton.1 hm
  rcases bfoot_mem.1 hx with e | e | e | ⟨e, he, h1 | ⟨p, hp, h1⟩⟩
  · exact row_map_ne hr h.map e
  · exact row_map_ne hr h.map e
  · exact own_row_ne h.rtu hr (by decide) e.symm
  · exact own_row_ne (h.own e he) hr (by decide) h1.symm
  · exact own_row_ne (h.byt e he p hp) hr (by decide) h1.symm
theorem filter_len_le {b : Bu} {t : Nat} : (b.at_ t).length ≤ b.l.length := by
  unfold Bu.at_
  rw [List.length_map]
  exact List.length_filter_le _ _
set_option maxRecDepth 100000 in
set_option maxHeartbeats 1000000 in
theorem add_any {w : World} {base gs gm rg rc : Nat} {b : Bu} {E : List En} (h : BusAt w base gs gm rg rc b E) (hb : base ≤ w.heap.size) (t : Nat) (ht : b.time < t) (htl : t ≤ 1000000) (pm : Pm) (m : Nat) (hm : pm.p.b.length = m) (hpm : pmOwn w base pm) (hu : ∀ x ∈ pm.p.b, x < 256) (hln : b.l.length ≤ 100000) :
    Calls Try.prog 26 #[.pointer (some ⟨gs, 0, none⟩), .int .i64 (t : Int), .agg (pmV pm.p.s pm.p.up (some ⟨pm.g, 0, none⟩) m pm.c).toArray] w (AddP w base gs gm rg rc b E t pm) := by
  obtain ⟨iP, hifP, hp0, hp1, hp2⟩ := info_parts info_parcel
  have hfr : Below w.heap.size w (w.alloc (.cells (pmV pm.p.s pm.p.up (some ⟨pm.g, 0, none⟩) m pm.c).toArray 71)) := bel_alloc (Below.refl _ _) _
  have H0 := Lib.hid (h.to hfr)
  have P0 := Lib.hid (own_below hpm hfr)
  have R0 : Hid (RowAt (w.alloc (.cells (pmV pm.p.s pm.p.up (some ⟨pm.g, 0, none⟩) m pm.c).toArray 71)) w.heap.size 71 (pmV pm.p.s pm.p.up (some ⟨pm.g, 0, none⟩) m pm.c)) := Lib.hid (RowAt.new _ _ _)
  have HFR := Lib.hid hfr
  have HW := Lib.hid h
  have HU := Lib.hid hu
  have HM := Lib.hid hm
  clear hfr h hpm hu hm
  go_enter Try.func26, Try.ntmps26
  go_upto_region 1 with fail
  generalize w.alloc (.cells (pmV pm.p.s pm.p.up (some ⟨pm.g, 0, none⟩) m pm.c).toArray 71) = W at *
  obtain ⟨gx, hgx⟩ : ∃ gx, w.heap.size = gx := ⟨_, rfl⟩
  have HGX := Lib.hid hgx
  rw [hgx] at R0 hb ⊢
  clear hgx
  have hmx : gx ≠ gm := by have h1 := (HW.out.parts.map).lt; have h2 := HGX.out; omega
  have dlt : gx < (W).heap.size := R0.out.lt
  have dlu : gx < (W).heap.size + 1 := Nat.lt_succ_of_lt R0.out.lt
  have d0 : (W).cell? ⟨gx, 0, none⟩ = some (.int .i64 pm.p.s) := R0.out.cells 0
  have dz0 : (W).frozen? ⟨gx, 0, none⟩ = false := R0.out.frozen 0
  have d1 : (W).cell? ⟨gx, 1, none⟩ = some (.bool pm.p.up) := R0.out.cells 1
  have dz1 : (W).frozen? ⟨gx, 1, none⟩ = false := R0.out.frozen 1
  have d2 : (W).cell? ⟨gx, 2, none⟩ = some (.slice (some ⟨pm.g, 0, none⟩) m pm.c) := R0.out.cells 2
  have dz2 : (W).frozen? ⟨gx, 2, none⟩ = false := R0.out.frozen 2
  have c4 : W.cell? ⟨gs, 4, none⟩ = some (.map (some gm)) := H0.out.row.cells 4
  obtain ⟨v, hv, hcase⟩ := run_look_en H0.out.parts.map t
  have hWl : gx < W.heap.size := R0.out.lt
  have hgsW : gs < W.heap.size := H0.out.row.lt
  have HC := Lib.hid hcase
  obtain ⟨Wa, hWa⟩ : ∃ Wa, (W.alloc (.cells #[.int .i64 pm.p.s, .bool pm.p.up, .slice (some ⟨pm.g, 0, none⟩) m pm.c] 36)).drew = Wa := ⟨_, rfl⟩
  have bWa : Below W.heap.size W Wa := by rw [← hWa]; exact (bel_alloc (Below.refl _ _) _).drew
  have HWA := Lib.hid hWa
  have HNEWS : Hid (∀ j u, [Value.int .i64 pm.p.s, .bool pm.p.up, .slice (some ⟨pm.g, 0, none⟩) m pm.c][j]? = some u → Wa.cell? ((⟨W.heap.size, 0, none⟩ : Addr).add j) = some u) := Lib.hid (by rw [← hWa]; exact lit_news W _ [_, _, _] _ rfl)
  have hWaz : W.heap.size < Wa.heap.size := by rw [← hWa]; simp
  have hv2 : (Instr.lookup 60 (.map (some gm)) (.int .i64 (t : Int)) false).run Try.prog W.drew = .ok v W.drew := look_same (w := W.drew) (H0.out.parts.map.fr (F := []) (Fr.of_below _ (Below.refl _ _).drew) (by simp)) H0.out.parts.keys hcase
  have hv3 : (Instr.lookup 60 (.map (some gm)) (.int .i64 (t : Int)) false).run Try.prog Wa = .ok v Wa := look_same (H0.out.parts.map.fr (F := []) (Fr.of_below _ bWa) (by simp)) H0.out.parts.keys hcase
  clear hcase hv hWa
  refine wp_region_held_drew (S := (fun w' => w'.cell? ⟨gs, 4, none⟩ = some (.map (some gm)) ∧ w'.rangeAt gx 0 (pmV pm.p.s pm.p.up (some ⟨pm.g, 0, none⟩) m pm.c))) (by kernel_rfl) ?_ (fun hHeld => ?_)
  · exact ⟨c4, R0.out.all⟩
  refine takeD (i := 0) (oi := _) (v := ?vv1) (d := some 6) rfl (by kernel_rfl) (by kernel_rfl) (by kernel_rfl) (by kernel_rfl) (fun _ _ _ h => h) (Or.inl ⟨by kernel_rfl, ?_⟩) (by assumption) ?_
  rotate_left 1
  · intro W_ hSw; (try dsimp only at hSw); go_simp; (first | done | with_reducible rfl)
  try simp only [Act.put, List.setIfInBounds_toArray, List.set_cons_zero, List.set_cons_succ]
  refine takeD (i := 1) (oi := _) (v := ?vv2) (d := some 7) rfl (by kernel_rfl) (by kernel_rfl) (by kernel_rfl) (by kernel_rfl) (fun _ _ _ h => h) (Or.inl ⟨by kernel_rfl, ?_⟩) (by assumption) ?_
  rotate_left 1
  · intro W_ hSw; (try dsimp only at hSw); go_simp; (first | done | with_reducible rfl)
  try simp only [Act.put, List.setIfInBounds_toArray, List.set_cons_zero, List.set_cons_succ]
  refine takeD (i := 2) (oi := _) (v := ?vv3) (d := some 8) rfl (by kernel_rfl) (by kernel_rfl) (by kernel_rfl) (by kernel_rfl) (fun _ _ _ h => h) (Or.inl ⟨by kernel_rfl, ?_⟩) (by assumption) ?_
  rotate_left 1
  · intro W_ hSw; (try dsimp only at hSw); go_simp; (first | done | with_reducible rfl)
  try simp only [Act.put, List.setIfInBounds_toArray, List.set_cons_zero, List.set_cons_succ]
  refine takeD (i := 3) (oi := _) (v := ?vv4) (d := some 9) rfl (by kernel_rfl) (by kernel_rfl) (by kernel_rfl) (by kernel_rfl) (fun _ _ _ h => h) (Or.inl ⟨by kernel_rfl, ?_⟩) (by assumption) ?_
  rotate_left 1
  · intro W_ hSw; (try dsimp only at hSw); go_simp; (first | done | with_reducible rfl)
  try simp only [Act.put, List.setIfInBounds_toArray, List.set_cons_zero, List.set_cons_succ]
  refine takeD (i := 4) (oi := _) (v := ?vv5) (d := some 10) rfl (by kernel_rfl) (by kernel_rfl) (by kernel_rfl) (by kernel_rfl) (fun _ _ _ h => h) (Or.inl ⟨by kernel_rfl, ?_⟩) (by assumption) ?_
  rotate_left 1
  · intro W_ hSw; (try dsimp only at hSw); go_simp; (first | done | with_reducible rfl)
  try simp only [Act.put, List.setIfInBounds_toArray, List.set_cons_zero, List.set_cons_succ]
  refine takeD (i := 5) (oi := _) (v := ?vv6) (d := some 11) rfl (by kernel_rfl) (by kernel_rfl) (by kernel_rfl) (by kernel_rfl) (fun _ _ _ h => h) (Or.inl ⟨by kernel_rfl, ?_⟩) (by assumption) ?_
  rotate_left 1
  · intro W_ hSw; (try dsimp only at hSw); go_simp; (first | done | with_reducible rfl)
  try simp only [Act.put, List.setIfInBounds_toArray, List.set_cons_zero, List.set_cons_succ]
  refine takeD (i := 6) (oi := _) (v := ?vv7) (d := some 12) rfl (by kernel_rfl) (by kernel_rfl) (by kernel_rfl) (by kernel_rfl) (fun _ _ _ h => h) (Or.inl ⟨by kernel_rfl, ?_⟩) (by assumption) ?_
  rotate_left 1
  · intro W_ hSw; (try dsimp only at hSw); go_simp; (first | done | with_reducible rfl)
  try simp only [Act.put, List.setIfInBounds_toArray, List.set_cons_zero, List.set_cons_succ]
  refine takeD (i := 7) (oi := _) (v := ?vv8) (d := some 13) rfl (by kernel_rfl) (by kernel_rfl) (by kernel_rfl) (by kernel_rfl) (fun _ _ _ h => h) (Or.inl ⟨by kernel_rfl, ?_⟩) (by assumption) ?_
  rotate_left 1
  · intro W_ hSw; (try dsimp only at hSw); go_simp; (first | done | with_reducible rfl)
  try simp only [Act.put, List.setIfInBounds_toArray, List.set_cons_zero, List.set_cons_succ]
  refine takeD (i := 8) (oi := _) (v := ?vv9) (d := some 14) rfl (by kernel_rfl) (by kernel_rfl) (by kernel_rfl) (by kernel_rfl) (fun _ _ _ h => h) (Or.inl ⟨by kernel_rfl, ?_⟩) (by assumption) ?_
  rotate_left 1
  · intro W_ hSw; (try dsimp only at hSw); go_simp; (first | done | with_reducible rfl)
  try simp only [Act.put, List.setIfInBounds_toArray, List.set_cons_zero, List.set_cons_succ]
  refine takeD (i := 9) (oi := _) (v := ?vv10) (d := some 15) rfl (by kernel_rfl) (by kernel_rfl) (by kernel_rfl) (by kernel_rfl) (fun _ _ _ h => h) (Or.inl ⟨by kernel_rfl, ?_⟩) (by assumption) ?_
  rotate_left 1
  · intro W_ hSw; (try dsimp only at hSw); go_simp; (first | done | with_reducible rfl)
  try simp only [Act.put, List.setIfInBounds_toArray, List.set_cons_zero, List.set_cons_succ]
  refine takeD (i := 11) (oi := _) (v := _) (d := some 17) rfl (by kernel_rfl) (by kernel_rfl) (by kernel_rfl) (by kernel_rfl) (fun _ _ _ h => h) (yieldsIf_load_mid (by kernel_rfl) 71 (.tmp 5) (by kernel_rfl) gx 0 (by kernel_rfl) (pmV pm.p.s pm.p.up (some ⟨pm.g, 0, none⟩) m pm.c) _ (fun W h => h.2) Try.underlying71 rfl size_par) (by assumption) ?_
  try simp only [Act.put, List.setIfInBounds_toArray, List.set_cons_zero, List.set_cons_succ]
  refine wpAnyH_ready (rs := [10, 12]) (by kernel_rfl) (by simp) ?_
  refine AllReadyH.cons (o := _) rfl (fun K hK => ?_) (AllReadyH.cons (o := _) rfl (fun K hK => ?_) AllReadyH.nil)
  · go_simp
    refine hK.out _ _ ?_ (fun hHeld => ?_)
    · exact hHeld
    clear hK K
    try simp only [Act.put]
    try simp only [List.setIfInBounds_toArray]
    try simp only [List.set_cons_succ]
    try simp only [List.set_cons_zero]
    refine wpAnyH_ready (rs := [12]) (by kernel_rfl) (by simp) ?_
    refine AllReadyH.cons (o := _) rfl (fun K hK => ?_) AllReadyH.nil
    (go_simp; rw [HWA.out])
    refine hK.out _ _ ?_ (fun hHeld => ?_)
    · exact ⟨(bWa.cell (p := ⟨gs, 4, none⟩) hgsW).trans c4, range_below' R0.out.all bWa hWl⟩
    clear hK K
    try simp only [Act.put]
    try simp only [List.setIfInBounds_toArray]
    try simp only [List.set_cons_succ]
    try simp only [List.set_cons_zero]
    have HPW := Lib.hid (H0.out.parts.to bWa)
    have PMW := Lib.hid (own_below P0.out bWa)
    rcases HC.out with ⟨rfl, hno⟩ | ⟨j, e, he, het, rfl⟩
    · have HNO := Lib.hid hno
      refine wpAnyH_ready (rs := [13]) (by kernel_rfl) (by simp) ?_
      refine AllReadyH.cons (o := _) rfl (fun K hK => ?_) AllReadyH.nil
      (refine step_append_own_at rfl (.tmp 16) (.tmp 18) 42 rfl base 36 iP _ 3 40 Try.underlying42 hifP hp0 hp1 hp2 rfl (by decide) (.slice none 0 0) 0 [] rfl (World.ownsRow_nil _ _ _ _) ⟨W.heap.size, 0, none⟩ 1 1 [.int .i64 pm.p.s, .bool pm.p.up, .slice (some ⟨pm.g, 0, none⟩) m pm.c] rfl rfl HNEWS.out (by intro u hu; simp only [List.mem_cons, List.not_mem_nil, or_false] at hu; rcases hu with rfl | rfl | rfl <;> rfl) (by unfold maxLen; omega) (by omega) (by omega) ?_)
      intro A' c' w1 o1 gr1 at1
      have o1' : w1.ownsRow base 36 3 (.slice A' 1 c') 1 (pmF pm) := by have h := o1; rw [← HM.out] at h; exact h
      obtain ⟨g', rfl, hat, k1, hfin⟩ := HPW.out.new (t := t) HNO.out PMW.out HU.out o1' gr1 at1
      obtain ⟨w2, hrun, hm2, ho2⟩ := run_put_new k1 ⟨t, g', c', [pm]⟩ HNO.out
      have hrow : ∀ x, (Value.slice none 0 0).ownBlock = some x → x ∈ bfoot gs gm rg E := fun x hx => by cases hx
      have hgsn : some gs ≠ (Value.slice none 0 0).ownBlock := by simp [Value.ownBlock]
      have hgxn : some gx ≠ (Value.slice none 0 0).ownBlock := by simp [Value.ownBlock]
      have PU := Lib.hid (Pure.new (g := g') (c := c') (pm := pm) HW.out.pure HNO.out ht)
      have PA := Lib.hid (hfin w2 hm2 ho2)
      have FT : Hid (∀ x, x ∈ bfoot gs gm rg (E ++ [⟨t, g', c', [pm]⟩]) → x ∈ bfoot gs gm rg E ∨ x = pm.g ∨ w.heap.size ≤ x) := Lib.hid (fun x hx => by
        rcases bfoot_mem.1 hx with h | h | h | ⟨e, he, h⟩
        · exact .inl (bfoot_mem.2 (.inl h))
        · exact .inl (bfoot_mem.2 (.inr (.inl h)))
        · exact .inl (bfoot_mem.2 (.inr (.inr (.inl h))))
        · rcases List.mem_append.1 he with he | he
          · exact .inl (bfoot_mem.2 (.inr (.inr (.inr ⟨e, he, h⟩))))
          · obtain rfl := List.mem_singleton.1 he
            rcases h with rfl | ⟨p, hp, rfl⟩
            · have := HGX.out; exact .inr (.inr (by first | omega | (dsimp only; omega)))
            · obtain rfl := List.mem_singleton.1 hp
              exact .inr (.inl rfl))
      have BP := Lib.hid (byts_new E t g' c' pm)
      have hgsm : gs ≠ gm := row_map_ne H0.out.row H0.out.parts.map
      have kc1 : w1.cell? ⟨gs, 4, none⟩ = some (.map (some gm)) := gr1.cell ((bWa.cell (p := ⟨gs, 4, none⟩) hgsW).trans c4) hgsn
      have kr1 : w1.rangeAt gx 0 (pmV pm.p.s pm.p.up (some ⟨pm.g, 0, none⟩) m pm.c) := fun j v hv => gr1.cell (range_below' R0.out.all bWa hWl j v hv) hgxn
      refine hK.out _ _ ?_ (fun hHeld => ?_)
      · exact ⟨kc1, kr1⟩
      clear hK K
      try simp only [List.getElem_toArray, List.getElem_cons_succ, List.getElem_cons_zero]
      dsimp only [Act.put]
      try simp only [List.setIfInBounds_toArray]
      try simp only [List.set_cons_succ]
      try simp only [List.set_cons_zero]
      refine wpAnyH_ready (rs := [14]) (by kernel_rfl) (by simp) ?_
      refine AllReadyH.cons (o := _) rfl (fun K hK => ?_) AllReadyH.nil
      refine step_mapUpdate rfl 60 (.tmp 9) (.tmp 10) (.tmp 19) rfl (.map (some gm)) _ _ rfl rfl rfl w2 hrun ?_
      refine hK.out _ _ ?_ (fun hHeld => ?_)
      · exact ⟨(ho2.cell (p := ⟨gs, 4, none⟩) hgsm).trans kc1, fun j v hv => (ho2.cell (p := ⟨gx, 0 + j, none⟩) hmx).trans (kr1 j v hv)⟩
      clear hK K
      try simp only [List.getElem_toArray, List.getElem_cons_succ, List.getElem_cons_zero]
      dsimp only [Act.put]
      try simp only [List.setIfInBounds_toArray]
      try simp only [List.set_cons_succ]
      try simp only [List.set_cons_zero]
      refine wpAnyH_done (by kernel_rfl) ?_ _
      have RG1 : RowAt w1 gs 62 _ := (gr1.block gs (Nat.lt_of_lt_of_le hgsW bWa.size) hgsn).trans (show RowAt Wa gs _ _ from (H0.out.to bWa).row)
      have RG2 := Lib.hid (RG1.only ho2 hgsm)
      have F2 : Hid (Fr (bfoot gs gm rg E) w w2) := Lib.hid ((((Fr.of_below _ HFR.out).trans (Fr.of_below (bfoot gs gm rg E) bWa) (fun _ h => .inl h)).trans (Fr.of_grown gr1 hrow) (fun _ h => .inl h)).trans (Fr.of_only ho2 (bfoot_mem.2 (.inr (.inl rfl)))) (fun _ h => .inl h))
      clear RG1 kc1 kr1 hrun hm2 ho2 gr1 at1 o1 o1' hfin k1 hrow hgsn hgxn bWa hWaz HNEWS hHeld hv2 hv3 c4 d0 d1 d2 dz0 dz1 dz2 dlt dlu
      have ylt : gs < (w2).heap.size := RG2.out.lt
      have ylu : gs < (w2).heap.size + 1 := Nat.lt_succ_of_lt RG2.out.lt
      have y0 : (w2).cell? ⟨gs, 0, none⟩ = some (.pointer (some ⟨gs, 0, none⟩)) := RG2.out.cells 0
      have yz0 : (w2).frozen? ⟨gs, 0, none⟩ = false := RG2.out.frozen 0
      have y1 : (w2).cell? ⟨gs, 1, none⟩ = some (.slice (some ⟨rg, 0, none⟩) b.rtu.length rc) := RG2.out.cells 1
      have yz1 : (w2).frozen? ⟨gs, 1, none⟩ = false := RG2.out.frozen 1
      have y2 : (w2).cell? ⟨gs, 2, none⟩ = some (.int .i64 (b.time : Int)) := RG2.out.cells 2
      have yz2 : (w2).frozen? ⟨gs, 2, none⟩ = false := RG2.out.frozen 2
      have y3 : (w2).cell? ⟨gs, 3, none⟩ = some (.int .i64 (b.l.length : Int)) := RG2.out.cells 3
      have yz3 : (w2).frozen? ⟨gs, 3, none⟩ = false := RG2.out.frozen 3
      have y4 : (w2).cell? ⟨gs, 4, none⟩ = some (.map (some gm)) := RG2.out.cells 4
      have yz4 : (w2).frozen? ⟨gs, 4, none⟩ = false := RG2.out.frozen 4
      go_wp2
      refine bodyPost_end (results_none rfl _ _ _) rfl ⟨_, rfl, BusAt.mk' ?_ (PA.out.fr (Fr.of_only ((Only.refl gs w2).set _) (List.mem_singleton.2 rfl)) (PA.out.ne_gs RG2.out)) PU.out HW.out.gsb, F2.out.trans (F' := bfoot gs gm rg E) (Fr.of_only ((Only.refl gs w2).set _) (bfoot_mem.2 (.inl rfl))) (fun _ h => .inl h), FT.out, BP.out⟩
      have hr := RG2.out.set 3 (.int .i64 ((b.l.length : Int) + 1))
      have hl : (((b.l ++ [(t, pm.p)]).length : Nat) : Int) = (b.l.length : Int) + 1 := by simp
      dsimp only
      rw [hl]
      exact hr
    · subst het
      have HE := Lib.hid he
      obtain ⟨N, hN⟩ : ∃ N, e.l.length = N := ⟨_, rfl⟩
      have HN := Lib.hid hN
      have hNl : N ≤ 100000 := by
        have h1 := congrArg List.length (HW.out.is e (List.mem_of_getElem? he))
        have h2 := filter_len_le (b := b) (t := e.t)
        rw [List.length_map] at h1
        omega
      obtain ⟨eg, heg⟩ : ∃ eg, e.g = eg := ⟨_, rfl⟩
      have HEG := Lib.hid heg
      have OWE : Hid (Wa.ownsRow base 36 3 (.slice (some ⟨eg, 0, none⟩) N e.c) N (e.l.flatMap pmF)) := Lib.hid (by have h := HPW.out.own e (List.mem_of_getElem? he); rw [hN, heg] at h; exact h)
      have hev : e.v = .slice (some ⟨eg, 0, none⟩) N e.c := by unfold En.v; rw [hN, heg]
      have hegs : eg ≠ gs := by rw [← heg]; exact own_row_ne (HPW.out.own e (List.mem_of_getElem? he)) (show RowAt Wa gs _ _ from (H0.out.to bWa).row) (by decide)
      have hegx : eg ≠ gx := by rw [← heg]; have h1 := ((HW.out.parts.own e (List.mem_of_getElem? he)).lt e.g rfl).2; have h2 := HGX.out; omega
      rw [hev]
      clear hN heg hev he
      refine wpAnyH_ready (rs := [13]) (by kernel_rfl) (by simp) ?_
      refine AllReadyH.cons (o := _) rfl (fun K hK => ?_) AllReadyH.nil
      (refine step_append_own_at rfl (.tmp 16) (.tmp 18) 42 rfl base 36 iP _ 3 40 Try.underlying42 hifP hp0 hp1 hp2 rfl (by decide) (.slice (some ⟨eg, 0, none⟩) N e.c) N (e.l.flatMap pmF) rfl OWE.out ⟨W.heap.size, 0, none⟩ 1 1 [.int .i64 pm.p.s, .bool pm.p.up, .slice (some ⟨pm.g, 0, none⟩) m pm.c] rfl rfl HNEWS.out (by intro u hu; simp only [List.mem_cons, List.not_mem_nil, or_false] at hu; rcases hu with rfl | rfl | rfl <;> rfl) (by unfold maxLen; omega) (by omega) (by omega) ?_)
      intro A' c' w1 o1 gr1 at1
      have o1' : w1.ownsRow base 36 3 (.slice A' (N + 1) c') (N + 1) (e.l.flatMap pmF ++ pmF pm) := by have h := o1; rw [← HM.out] at h; exact h
      obtain ⟨g', rfl, hat, k1, hfin⟩ := HPW.out.old HE.out PMW.out HU.out (by rw [HN.out]) o1' (by rw [HEG.out]; exact gr1) (by rw [HEG.out]; exact at1)
      obtain ⟨w2, hrun, hm2, ho2⟩ := run_put_old (e := ⟨e.t, g', c', e.l ++ [pm]⟩) k1 HE.out rfl HW.out.parts.keys
      have hrun : (Instr.mapUpdate 60 (.map (some gm)) (.int .i64 (e.t : Int)) (.slice (some ⟨g', 0, none⟩) (N + 1) c')).run Try.prog w1 = .ok () w2 := by
        have h := hrun
        unfold En.k En.v at h
        simp only [List.length_append, List.length_cons, List.length_nil, Nat.zero_add, HN.out] at h
        exact h
      have hrow : ∀ x, (Value.slice (some ⟨eg, 0, none⟩) N e.c).ownBlock = some x → x ∈ bfoot gs gm rg E := fun x hx => by
        have h1 : eg = x := by simpa [Value.ownBlock] using hx
        exact bfoot_mem.2 (.inr (.inr (.inr ⟨e, List.mem_of_getElem? HE.out, .inl (by rw [HEG.out, h1])⟩)))
      have hgsn : some gs ≠ (Value.slice (some ⟨eg, 0, none⟩) N e.c).ownBlock := by simp [Value.ownBlock]; exact fun h => hegs h.symm
      have hgxn : some gx ≠ (Value.slice (some ⟨eg, 0, none⟩) N e.c).ownBlock := by simp [Value.ownBlock]; exact fun h => hegx h.symm
      have PU := Lib.hid (Pure.old (g := g') (c := c') (pm := pm) HW.out.pure HE.out HW.out.parts.keys ht)
      have PA := Lib.hid (hfin w2 hm2 ho2)
      have FT : Hid (∀ x, x ∈ bfoot gs gm rg (E.set j ⟨e.t, g', c', e.l ++ [pm]⟩) → x ∈ bfoot gs gm rg E ∨ x = pm.g ∨ w.heap.size ≤ x) := Lib.hid (fun x hx => by
        rcases bfoot_mem.1 hx with h | h | h | ⟨y, hy, h⟩
        · exact .inl (bfoot_mem.2 (.inl h))
        · exact .inl (bfoot_mem.2 (.inr (.inl h)))
        · exact .inl (bfoot_mem.2 (.inr (.inr (.inl h))))
        · rcases List.mem_or_eq_of_mem_set hy with hy | rfl
          · exact .inl (bfoot_mem.2 (.inr (.inr (.inr ⟨y, hy, h⟩))))
          · have hem := List.mem_of_getElem? HE.out
            rcases h with rfl | ⟨p, hp, rfl⟩
            · rcases hat with h1 | h1
              · exact .inl (bfoot_mem.2 (.inr (.inr (.inr ⟨e, hem, .inl h1⟩))))
              · have := HGX.out; exact .inr (.inr (by first | omega | (dsimp only; omega)))
            · rcases List.mem_append.1 hp with hp | hp
              · exact .inl (bfoot_mem.2 (.inr (.inr (.inr ⟨e, hem, .inr ⟨p, hp, rfl⟩⟩))))
              · obtain rfl := List.mem_singleton.1 hp
                exact .inr (.inl rfl))
      have BP := Lib.hid (byts_set E j e e.t g' c' pm HE.out)
      have hgsm : gs ≠ gm := row_map_ne H0.out.row H0.out.parts.map
      have kc1 : w1.cell? ⟨gs, 4, none⟩ = some (.map (some gm)) := gr1.cell ((bWa.cell (p := ⟨gs, 4, none⟩) hgsW).trans c4) hgsn
      have kr1 : w1.rangeAt gx 0 (pmV pm.p.s pm.p.up (some ⟨pm.g, 0, none⟩) m pm.c) := fun j v hv => gr1.cell (range_below' R0.out.all bWa hWl j v hv) hgxn
      refine hK.out _ _ ?_ (fun hHeld => ?_)
      · exact ⟨kc1, kr1⟩
      clear hK K
      try simp only [List.getElem_toArray, List.getElem_cons_succ, List.getElem_cons_zero]
      dsimp only [Act.put]
      try simp only [List.setIfInBounds_toArray]
      try simp only [List.set_cons_succ]
      try simp only [List.set_cons_zero]
      refine wpAnyH_ready (rs := [14]) (by kernel_rfl) (by simp) ?_
      refine AllReadyH.cons (o := _) rfl (fun K hK => ?_) AllReadyH.nil
      refine step_mapUpdate rfl 60 (.tmp 9) (.tmp 10) (.tmp 19) rfl (.map (some gm)) _ _ rfl rfl rfl w2 hrun ?_
      refine hK.out _ _ ?_ (fun hHeld => ?_)
      · exact ⟨(ho2.cell (p := ⟨gs, 4, none⟩) hgsm).trans kc1, fun j v hv => (ho2.cell (p := ⟨gx, 0 + j, none⟩) hmx).trans (kr1 j v hv)⟩
      clear hK K
      try simp only [List.getElem_toArray, List.getElem_cons_succ, List.getElem_cons_zero]
      dsimp only [Act.put]
      try simp only [List.setIfInBounds_toArray]
      try simp only [List.set_cons_succ]
      try simp only [List.set_cons_zero]
      refine wpAnyH_done (by kernel_rfl) ?_ _
      have RG1 : RowAt w1 gs 62 _ := (gr1.block gs (Nat.lt_of_lt_of_le hgsW bWa.size) hgsn).trans (show RowAt Wa gs _ _ from (H0.out.to bWa).row)
      have RG2 := Lib.hid (RG1.only ho2 hgsm)
      have F2 : Hid (Fr (bfoot gs gm rg E) w w2) := Lib.hid ((((Fr.of_below _ HFR.out).trans (Fr.of_below (bfoot gs gm rg E) bWa) (fun _ h => .inl h)).trans (Fr.of_grown gr1 hrow) (fun _ h => .inl h)).trans (Fr.of_only ho2 (bfoot_mem.2 (.inr (.inl rfl)))) (fun _ h => .inl h))
      clear RG1 kc1 kr1 hrun hm2 ho2 gr1 at1 o1 o1' hfin k1 hrow hgsn hgxn bWa hWaz HNEWS hHeld hv2 hv3 c4 d0 d1 d2 dz0 dz1 dz2 dlt dlu
      have ylt : gs < (w2).heap.size := RG2.out.lt
      have ylu : gs < (w2).heap.size + 1 := Nat.lt_succ_of_lt RG2.out.lt
      have y0 : (w2).cell? ⟨gs, 0, none⟩ = some (.pointer (some ⟨gs, 0, none⟩)) := RG2.out.cells 0
      have yz0 : (w2).frozen? ⟨gs, 0, none⟩ = false := RG2.out.frozen 0
      have y1 : (w2).cell? ⟨gs, 1, none⟩ = some (.slice (some ⟨rg, 0, none⟩) b.rtu.length rc) := RG2.out.cells 1
      have yz1 : (w2).frozen? ⟨gs, 1, none⟩ = false := RG2.out.frozen 1
      have y2 : (w2).cell? ⟨gs, 2, none⟩ = some (.int .i64 (b.time : Int)) := RG2.out.cells 2
      have yz2 : (w2).frozen? ⟨gs, 2, none⟩ = false := RG2.out.frozen 2
      have y3 : (w2).cell? ⟨gs, 3, none⟩ = some (.int .i64 (b.l.length : Int)) := RG2.out.cells 3
      have yz3 : (w2).frozen? ⟨gs, 3, none⟩ = false := RG2.out.frozen 3
      have y4 : (w2).cell? ⟨gs, 4, none⟩ = some (.map (some gm)) := RG2.out.cells 4
      have yz4 : (w2).frozen? ⟨gs, 4, none⟩ = false := RG2.out.frozen 4
      go_wp2
      refine bodyPost_end (results_none rfl _ _ _) rfl ⟨_, rfl, BusAt.mk' ?_ (PA.out.fr (Fr.of_only ((Only.refl gs w2).set _) (List.mem_singleton.2 rfl)) (PA.out.ne_gs RG2.out)) PU.out HW.out.gsb, F2.out.trans (F' := bfoot gs gm rg E) (Fr.of_only ((Only.refl gs w2).set _) (bfoot_mem.2 (.inl rfl))) (fun _ h => .inl h), FT.out, BP.out⟩
      have hr := RG2.out.set 3 (.int .i64 ((b.l.length : Int) + 1))
      have hl : (((b.l ++ [(e.t, pm.p)]).length : Nat) : Int) = (b.l.length : Int) + 1 := by simp
      dsimp only
      rw [hl]
      exact hr
  · (go_simp; rw [HWA.out])
    refine hK.out _ _ ?_ (fun hHeld => ?_)
    · exact ⟨(bWa.cell (p := ⟨gs, 4, none⟩) hgsW).trans c4, range_below' R0.out.all bWa hWl⟩
    clear hK K
    try simp only [Act.put]
    try simp only [List.setIfInBounds_toArray]
    try simp only [List.set_cons_succ]
    try simp only [List.set_cons_zero]
    refine wpAnyH_ready (rs := [10]) (by kernel_rfl) (by simp) ?_
    refine AllReadyH.cons (o := _) rfl (fun K hK => ?_) AllReadyH.nil
    go_simp
    refine hK.out _ _ ?_ (fun hHeld => ?_)
    · exact hHeld
    clear hK K
    try simp only [Act.put]
    try simp only [List.setIfInBounds_toArray]
    try simp only [List.set_cons_succ]
    try simp only [List.set_cons_zero]
    have HPW := Lib.hid (H0.out.parts.to bWa)
    have PMW := Lib.hid (own_below P0.out bWa)
    rcases HC.out with ⟨rfl, hno⟩ | ⟨j, e, he, het, rfl⟩
    · have HNO := Lib.hid hno
      refine wpAnyH_ready (rs := [13]) (by kernel_rfl) (by simp) ?_
      refine AllReadyH.cons (o := _) rfl (fun K hK => ?_) AllReadyH.nil
      (refine step_append_own_at rfl (.tmp 16) (.tmp 18) 42 rfl base 36 iP _ 3 40 Try.underlying42 hifP hp0 hp1 hp2 rfl (by decide) (.slice none 0 0) 0 [] rfl (World.ownsRow_nil _ _ _ _) ⟨W.heap.size, 0, none⟩ 1 1 [.int .i64 pm.p.s, .bool pm.p.up, .slice (some ⟨pm.g, 0, none⟩) m pm.c] rfl rfl HNEWS.out (by intro u hu; simp only [List.mem_cons, List.not_mem_nil, or_false] at hu; rcases hu with rfl | rfl | rfl <;> rfl) (by unfold maxLen; omega) (by omega) (by omega) ?_)
      intro A' c' w1 o1 gr1 at1
      have o1' : w1.ownsRow base 36 3 (.slice A' 1 c') 1 (pmF pm) := by have h := o1; rw [← HM.out] at h; exact h
      obtain ⟨g', rfl, hat, k1, hfin⟩ := HPW.out.new (t := t) HNO.out PMW.out HU.out o1' gr1 at1
      obtain ⟨w2, hrun, hm2, ho2⟩ := run_put_new k1 ⟨t, g', c', [pm]⟩ HNO.out
      have hrow : ∀ x, (Value.slice none 0 0).ownBlock = some x → x ∈ bfoot gs gm rg E := fun x hx => by cases hx
      have hgsn : some gs ≠ (Value.slice none 0 0).ownBlock := by simp [Value.ownBlock]
      have hgxn : some gx ≠ (Value.slice none 0 0).ownBlock := by simp [Value.ownBlock]
      have PU := Lib.hid (Pure.new (g := g') (c := c') (pm := pm) HW.out.pure HNO.out ht)
      have PA := Lib.hid (hfin w2 hm2 ho2)
      have FT : Hid (∀ x, x ∈ bfoot gs gm rg (E ++ [⟨t, g', c', [pm]⟩]) → x ∈ bfoot gs gm rg E ∨ x = pm.g ∨ w.heap.size ≤ x) := Lib.hid (fun x hx => by
        rcases bfoot_mem.1 hx with h | h | h | ⟨e, he, h⟩
        · exact .inl (bfoot_mem.2 (.inl h))
        · exact .inl (bfoot_mem.2 (.inr (.inl h)))
        · exact .inl (bfoot_mem.2 (.inr (.inr (.inl h))))
        · rcases List.mem_append.1 he with he | he
          · exact .inl (bfoot_mem.2 (.inr (.inr (.inr ⟨e, he, h⟩))))
          · obtain rfl := List.mem_singleton.1 he
            rcases h with rfl | ⟨p, hp, rfl⟩
            · have := HGX.out; exact .inr (.inr (by first | omega | (dsimp only; omega)))
            · obtain rfl := List.mem_singleton.1 hp
              exact .inr (.inl rfl))
      have BP := Lib.hid (byts_new E t g' c' pm)
      have hgsm : gs ≠ gm := row_map_ne H0.out.row H0.out.parts.map
      have kc1 : w1.cell? ⟨gs, 4, none⟩ = some (.map (some gm)) := gr1.cell ((bWa.cell (p := ⟨gs, 4, none⟩) hgsW).trans c4) hgsn
      have kr1 : w1.rangeAt gx 0 (pmV pm.p.s pm.p.up (some ⟨pm.g, 0, none⟩) m pm.c) := fun j v hv => gr1.cell (range_below' R0.out.all bWa hWl j v hv) hgxn
      refine hK.out _ _ ?_ (fun hHeld => ?_)
      · exact ⟨kc1, kr1⟩
      clear hK K
      try simp only [List.getElem_toArray, List.getElem_cons_succ, List.getElem_cons_zero]
      dsimp only [Act.put]
      try simp only [List.setIfInBounds_toArray]
      try simp only [List.set_cons_succ]
      try simp only [List.set_cons_zero]
      refine wpAnyH_ready (rs := [14]) (by kernel_rfl) (by simp) ?_
      refine AllReadyH.cons (o := _) rfl (fun K hK => ?_) AllReadyH.nil
      refine step_mapUpdate rfl 60 (.tmp 9) (.tmp 10) (.tmp 19) rfl (.map (some gm)) _ _ rfl rfl rfl w2 hrun ?_
      refine hK.out _ _ ?_ (fun hHeld => ?_)
      · exact ⟨(ho2.cell (p := ⟨gs, 4, none⟩) hgsm).trans kc1, fun j v hv => (ho2.cell (p := ⟨gx, 0 + j, none⟩) hmx).trans (kr1 j v hv)⟩
      clear hK K
      try simp only [List.getElem_toArray, List.getElem_cons_succ, List.getElem_cons_zero]
      dsimp only [Act.put]
      try simp only [List.setIfInBounds_toArray]
      try simp only [List.set_cons_succ]
      try simp only [List.set_cons_zero]
      refine wpAnyH_done (by kernel_rfl) ?_ _
      have RG1 : RowAt w1 gs 62 _ := (gr1.block gs (Nat.lt_of_lt_of_le hgsW bWa.size) hgsn).trans (show RowAt Wa gs _ _ from (H0.out.to bWa).row)
      have RG2 := Lib.hid (RG1.only ho2 hgsm)
      have F2 : Hid (Fr (bfoot gs gm rg E) w w2) := Lib.hid ((((Fr.of_below _ HFR.out).trans (Fr.of_below (bfoot gs gm rg E) bWa) (fun _ h => .inl h)).trans (Fr.of_grown gr1 hrow) (fun _ h => .inl h)).trans (Fr.of_only ho2 (bfoot_mem.2 (.inr (.inl rfl)))) (fun _ h => .inl h))
      clear RG1 kc1 kr1 hrun hm2 ho2 gr1 at1 o1 o1' hfin k1 hrow hgsn hgxn bWa hWaz HNEWS hHeld hv2 hv3 c4 d0 d1 d2 dz0 dz1 dz2 dlt dlu
      have ylt : gs < (w2).heap.size := RG2.out.lt
      have ylu : gs < (w2).heap.size + 1 := Nat.lt_succ_of_lt RG2.out.lt
      have y0 : (w2).cell? ⟨gs, 0, none⟩ = some (.pointer (some ⟨gs, 0, none⟩)) := RG2.out.cells 0
      have yz0 : (w2).frozen? ⟨gs, 0, none⟩ = false := RG2.out.frozen 0
      have y1 : (w2).cell? ⟨gs, 1, none⟩ = some (.slice (some ⟨rg, 0, none⟩) b.rtu.length rc) := RG2.out.cells 1
      have yz1 : (w2).frozen? ⟨gs, 1, none⟩ = false := RG2.out.frozen 1
      have y2 : (w2).cell? ⟨gs, 2, none⟩ = some (.int .i64 (b.time : Int)) := RG2.out.cells 2
      have yz2 : (w2).frozen? ⟨gs, 2, none⟩ = false := RG2.out.frozen 2
      have y3 : (w2).cell? ⟨gs, 3, none⟩ = some (.int .i64 (b.l.length : Int)) := RG2.out.cells 3
      have yz3 : (w2).frozen? ⟨gs, 3, none⟩ = false := RG2.out.frozen 3
      have y4 : (w2).cell? ⟨gs, 4, none⟩ = some (.map (some gm)) := RG2.out.cells 4
      have yz4 : (w2).frozen? ⟨gs, 4, none⟩ = false := RG2.out.frozen 4
      go_wp2
      refine bodyPost_end (results_none rfl _ _ _) rfl ⟨_, rfl, BusAt.mk' ?_ (PA.out.fr (Fr.of_only ((Only.refl gs w2).set _) (List.mem_singleton.2 rfl)) (PA.out.ne_gs RG2.out)) PU.out HW.out.gsb, F2.out.trans (F' := bfoot gs gm rg E) (Fr.of_only ((Only.refl gs w2).set _) (bfoot_mem.2 (.inl rfl))) (fun _ h => .inl h), FT.out, BP.out⟩
      have hr := RG2.out.set 3 (.int .i64 ((b.l.length : Int) + 1))
      have hl : (((b.l ++ [(t, pm.p)]).length : Nat) : Int) = (b.l.length : Int) + 1 := by simp
      dsimp only
      rw [hl]
      exact hr
    · subst het
      have HE := Lib.hid he
      obtain ⟨N, hN⟩ : ∃ N, e.l.length = N := ⟨_, rfl⟩
      have HN := Lib.hid hN
      have hNl : N ≤ 100000 := by
        have h1 := congrArg List.length (HW.out.is e (List.mem_of_getElem? he))
        have h2 := filter_len_le (b := b) (t := e.t)
        rw [List.length_map] at h1
        omega
      obtain ⟨eg, heg⟩ : ∃ eg, e.g = eg := ⟨_, rfl⟩
      have HEG := Lib.hid heg
      have OWE : Hid (Wa.ownsRow base 36 3 (.slice (some ⟨eg, 0, none⟩) N e.c) N (e.l.flatMap pmF)) := Lib.hid (by have h := HPW.out.own e (List.mem_of_getElem? he); rw [hN, heg] at h; exact h)
      have hev : e.v = .slice (some ⟨eg, 0, none⟩) N e.c := by unfold En.v; rw [hN, heg]
      have hegs : eg ≠ gs := by rw [← heg]; exact own_row_ne (HPW.out.own e (List.mem_of_getElem? he)) (show RowAt Wa gs _ _ from (H0.out.to bWa).row) (by decide)
      have hegx : eg ≠ gx := by rw [← heg]; have h1 := ((HW.out.parts.own e (List.mem_of_getElem? he)).lt e.g rfl).2; have h2 := HGX.out; omega
      rw [hev]
      clear hN heg hev he
      refine wpAnyH_ready (rs := [13]) (by kernel_rfl) (by simp) ?_
      refine AllReadyH.cons (o := _) rfl (fun K hK => ?_) AllReadyH.nil
      (refine step_append_own_at rfl (.tmp 16) (.tmp 18) 42 rfl base 36 iP _ 3 40 Try.underlying42 hifP hp0 hp1 hp2 rfl (by decide) (.slice (some ⟨eg, 0, none⟩) N e.c) N (e.l.flatMap pmF) rfl OWE.out ⟨W.heap.size, 0, none⟩ 1 1 [.int .i64 pm.p.s, .bool pm.p.up, .slice (some ⟨pm.g, 0, none⟩) m pm.c] rfl rfl HNEWS.out (by intro u hu; simp only [List.mem_cons, List.not_mem_nil, or_false] at hu; rcases hu with rfl | rfl | rfl <;> rfl) (by unfold maxLen; omega) (by omega) (by omega) ?_)
      intro A' c' w1 o1 gr1 at1
      have o1' : w1.ownsRow base 36 3 (.slice A' (N + 1) c') (N + 1) (e.l.flatMap pmF ++ pmF pm) := by have h := o1; rw [← HM.out] at h; exact h
      obtain ⟨g', rfl, hat, k1, hfin⟩ := HPW.out.old HE.out PMW.out HU.out (by rw [HN.out]) o1' (by rw [HEG.out]; exact gr1) (by rw [HEG.out]; exact at1)
      obtain ⟨w2, hrun, hm2, ho2⟩ := run_put_old (e := ⟨e.t, g', c', e.l ++ [pm]⟩) k1 HE.out rfl HW.out.parts.keys
      have hrun : (Instr.mapUpdate 60 (.map (some gm)) (.int .i64 (e.t : Int)) (.slice (some ⟨g', 0, none⟩) (N + 1) c')).run Try.prog w1 = .ok () w2 := by
        have h := hrun
        unfold En.k En.v at h
        simp only [List.length_append, List.length_cons, List.length_nil, Nat.zero_add, HN.out] at h
        exact h
      have hrow : ∀ x, (Value.slice (some ⟨eg, 0, none⟩) N e.c).ownBlock = some x → x ∈ bfoot gs gm rg E := fun x hx => by
        have h1 : eg = x := by simpa [Value.ownBlock] using hx
        exact bfoot_mem.2 (.inr (.inr (.inr ⟨e, List.mem_of_getElem? HE.out, .inl (by rw [HEG.out, h1])⟩)))
      have hgsn : some gs ≠ (Value.slice (some ⟨eg, 0, none⟩) N e.c).ownBlock := by simp [Value.ownBlock]; exact fun h => hegs h.symm
      have hgxn : some gx ≠ (Value.slice (some ⟨eg, 0, none⟩) N e.c).ownBlock := by simp [Value.ownBlock]; exact fun h => hegx h.symm
      have PU := Lib.hid (Pure.old (g := g') (c := c') (pm := pm) HW.out.pure HE.out HW.out.parts.keys ht)
      have PA := Lib.hid (hfin w2 hm2 ho2)
      have FT : Hid (∀ x, x ∈ bfoot gs gm rg (E.set j ⟨e.t, g', c', e.l ++ [pm]⟩) → x ∈ bfoot gs gm rg E ∨ x = pm.g ∨ w.heap.size ≤ x) := Lib.hid (fun x hx => by
        rcases bfoot_mem.1 hx with h | h | h | ⟨y, hy, h⟩
        · exact .inl (bfoot_mem.2 (.inl h))
        · exact .inl (bfoot_mem.2 (.inr (.inl h)))
        · exact .inl (bfoot_mem.2 (.inr (.inr (.inl h))))
        · rcases List.mem_or_eq_of_mem_set hy with hy | rfl
          · exact .inl (bfoot_mem.2 (.inr (.inr (.inr ⟨y, hy, h⟩))))
          · have hem := List.mem_of_getElem? HE.out
            rcases h with rfl | ⟨p, hp, rfl⟩
            · rcases hat with h1 | h1
              · exact .inl (bfoot_mem.2 (.inr (.inr (.inr ⟨e, hem, .inl h1⟩))))
              · have := HGX.out; exact .inr (.inr (by first | omega | (dsimp only; omega)))
            · rcases List.mem_append.1 hp with hp | hp
              · exact .inl (bfoot_mem.2 (.inr (.inr (.inr ⟨e, hem, .inr ⟨p, hp, rfl⟩⟩))))
              · obtain rfl := List.mem_singleton.1 hp
                exact .inr (.inl rfl))
      have BP := Lib.hid (byts_set E j e e.t g' c' pm HE.out)
      have hgsm : gs ≠ gm := row_map_ne H0.out.row H0.out.parts.map
      have kc1 : w1.cell? ⟨gs, 4, none⟩ = some (.map (some gm)) := gr1.cell ((bWa.cell (p := ⟨gs, 4, none⟩) hgsW).trans c4) hgsn
      have kr1 : w1.rangeAt gx 0 (pmV pm.p.s pm.p.up (some ⟨pm.g, 0, none⟩) m pm.c) := fun j v hv => gr1.cell (range_below' R0.out.all bWa hWl j v hv) hgxn
      refine hK.out _ _ ?_ (fun hHeld => ?_)
      · exact ⟨kc1, kr1⟩
      clear hK K
      try simp only [List.getElem_toArray, List.getElem_cons_succ, List.getElem_cons_zero]
      dsimp only [Act.put]
      try simp only [List.setIfInBounds_toArray]
      try simp only [List.set_cons_succ]
      try simp only [List.set_cons_zero]
      refine wpAnyH_ready (rs := [14]) (by kernel_rfl) (by simp) ?_
      refine AllReadyH.cons (o := _) rfl (fun K hK => ?_) AllReadyH.nil
      refine step_mapUpdate rfl 60 (.tmp 9) (.tmp 10) (.tmp 19) rfl (.map (some gm)) _ _ rfl rfl rfl w2 hrun ?_
      refine hK.out _ _ ?_ (fun hHeld => ?_)
      · exact ⟨(ho2.cell (p := ⟨gs, 4, none⟩) hgsm).trans kc1, fun j v hv => (ho2.cell (p := ⟨gx, 0 + j, none⟩) hmx).trans (kr1 j v hv)⟩
      clear hK K
      try simp only [List.getElem_toArray, List.getElem_cons_succ, List.getElem_cons_zero]
      dsimp only [Act.put]
      try simp only [List.setIfInBounds_toArray]
      try simp only [List.set_cons_succ]
      try simp only [List.set_cons_zero]
      refine wpAnyH_done (by kernel_rfl) ?_ _
      have RG1 : RowAt w1 gs 62 _ := (gr1.block gs (Nat.lt_of_lt_of_le hgsW bWa.size) hgsn).trans (show RowAt Wa gs _ _ from (H0.out.to bWa).row)
      have RG2 := Lib.hid (RG1.only ho2 hgsm)
      have F2 : Hid (Fr (bfoot gs gm rg E) w w2) := Lib.hid ((((Fr.of_below _ HFR.out).trans (Fr.of_below (bfoot gs gm rg E) bWa) (fun _ h => .inl h)).trans (Fr.of_grown gr1 hrow) (fun _ h => .inl h)).trans (Fr.of_only ho2 (bfoot_mem.2 (.inr (.inl rfl)))) (fun _ h => .inl h))
      clear RG1 kc1 kr1 hrun hm2 ho2 gr1 at1 o1 o1' hfin k1 hrow hgsn hgxn bWa hWaz HNEWS hHeld hv2 hv3 c4 d0 d1 d2 dz0 dz1 dz2 dlt dlu
      have ylt : gs < (w2).heap.size := RG2.out.lt
      have ylu : gs < (w2).heap.size + 1 := Nat.lt_succ_of_lt RG2.out.lt
      have y0 : (w2).cell? ⟨gs, 0, none⟩ = some (.pointer (some ⟨gs, 0, none⟩)) := RG2.out.cells 0
      have yz0 : (w2).frozen? ⟨gs, 0, none⟩ = false := RG2.out.frozen 0
      have y1 : (w2).cell? ⟨gs, 1, none⟩ = some (.slice (some ⟨rg, 0, none⟩) b.rtu.length rc) := RG2.out.cells 1
      have yz1 : (w2).frozen? ⟨gs, 1, none⟩ = false := RG2.out.frozen 1
      have y2 : (w2).cell? ⟨gs, 2, none⟩ = some (.int .i64 (b.time : Int)) := RG2.out.cells 2
      have yz2 : (w2).frozen? ⟨gs, 2, none⟩ = false := RG2.out.frozen 2
      have y3 : (w2).cell? ⟨gs, 3, none⟩ = some (.int .i64 (b.l.length : Int)) := RG2.out.cells 3
      have yz3 : (w2).frozen? ⟨gs, 3, none⟩ = false := RG2.out.frozen 3
      have y4 : (w2).cell? ⟨gs, 4, none⟩ = some (.map (some gm)) := RG2.out.cells 4
      have yz4 : (w2).frozen? ⟨gs, 4, none⟩ = false := RG2.out.frozen 4
      go_wp2
      refine bodyPost_end (results_none rfl _ _ _) rfl ⟨_, rfl, BusAt.mk' ?_ (PA.out.fr (Fr.of_only ((Only.refl gs w2).set _) (List.mem_singleton.2 rfl)) (PA.out.ne_gs RG2.out)) PU.out HW.out.gsb, F2.out.trans (F' := bfoot gs gm rg E) (Fr.of_only ((Only.refl gs w2).set _) (bfoot_mem.2 (.inl rfl))) (fun _ h => .inl h), FT.out, BP.out⟩
      have hr := RG2.out.set 3 (.int .i64 ((b.l.length : Int) + 1))
      have hl : (((b.l ++ [(e.t, pm.p)]).length : Nat) : Int) = (b.l.length : Int) + 1 := by simp
      dsimp only
      rw [hl]
      exact hr
end Go.Proofs.Ythigkmoilfdciaa
