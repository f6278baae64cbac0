/- A bus in memory: what an append and an update make of it. -/
import Derived.Test.YthigkmoilfdciaaBuMem
namespace Go.Proofs.Ythigkmoilfdciaa
open Go.RowKit
set_option linter.unusedVariables false
set_option linter.unusedSimpArgs false
theorem own_ne2 {w : World} {B1 B2 e1 e2 s1 s2 n1 n2 c1 c2 g1 g2 : Nat} {xs1 xs2 : List Value} (h1 : w.ownsRow B1 e1 s1 (.slice (some ⟨g1, 0, none⟩) n1 c1) n1 xs1) (h2 : w.ownsRow B2 e2 s2 (.slice (some ⟨g2, 0, none⟩) n2 c2) n2 xs2) (he : e1 ≠ e2) : g1 ≠ g2 := by
  rintro rfl
  rcases h1.2 with ⟨h, _⟩ | ⟨g, cap, cur, hv, _, hh, _⟩
  · simp at h
  rcases h2.2 with ⟨h, _⟩ | ⟨g', cap2, cur2, hv2, _, hh2, _⟩
  · simp at h
  obtain ⟨rfl, _⟩ : g1 = g ∧ c1 = cap := by simpa using hv
  obtain ⟨rfl, _⟩ : g1 = g' ∧ c2 = cap2 := by simpa using hv2
  rw [hh] at hh2
  have := Option.some.inj hh2
  injection this with _ h3 _
  exact he h3
theorem own_map_ne {w : World} {B1 e1 s1 n1 c1 g1 gm clock : Nat} {xs1 : List Value} {es : Array MapEntry} (h1 : w.ownsRow B1 e1 s1 (.slice (some ⟨g1, 0, none⟩) n1 c1) n1 xs1) (h2 : MapIs w gm es clock) : g1 ≠ gm := by
  rintro rfl
  rcases h1.2 with ⟨h, _⟩ | ⟨g, cap, cur, hv, _, hh, _⟩
  · simp at h
  obtain ⟨rfl, _⟩ : g1 = g ∧ c1 = cap := by simpa using hv
  rw [show w.heap[g1]? = _ from h2] at hh
  cases hh
theorem own_row_ne {w : World} {B1 e1 s1 n1 c1 g1 gs T : Nat} {xs1 C : List Value} (h1 : w.ownsRow B1 e1 s1 (.slice (some ⟨g1, 0, none⟩) n1 c1) n1 xs1) (h2 : RowAt w gs T C) (he : e1 ≠ T) : g1 ≠ gs := by
  rintro rfl
  rcases h1.2 with ⟨h, _⟩ | ⟨g, cap, cur, hv, _, hh, _⟩
  · simp at h
  obtain ⟨rfl, _⟩ : g1 = g ∧ c1 = cap := by simpa using hv
  rw [show w.heap[g1]? = _ from h2] at hh
  have := Option.some.inj hh
  injection this with _ h3 _
  exact he h3.symm
theorem own_somep {w : World} {B e s n c : Nat} {A : Option Addr} {xs : List Value} (h : w.ownsRow B e s (.slice A n c) n xs) (hn : 0 < n) : ∃ g, A = some ⟨g, 0, none⟩ ∧ B ≤ g ∧ g < w.heap.size := by
  rcases h.2 with ⟨_, h0⟩ | ⟨g, cap, cur, hv, hb, hh, _⟩
  · omega
  · exact ⟨g, by simp at hv; exact hv.1, hb, (Array.getElem?_eq_some_iff.1 hh).1⟩
abbrev pmOwn (w : World) (base : Nat) (p : Pm) : Prop := w.ownsRow base 5 1 (.slice (some ⟨p.g, 0, none⟩) p.p.b.length p.c) p.p.b.length (p.p.b.map byw)
structure Parts (w : World) (base gm rg rc : Nat) (rtu : List Bool) (E : List En) : Prop where
  rtu : w.ownsRow base 4 1 (.slice (some ⟨rg, 0, none⟩) rtu.length rc) rtu.length (rtu.map Value.bool)
  map : EnMap w gm E
  own : ∀ e ∈ E, w.ownsRow base 36 3 (.slice (some ⟨e.g, 0, none⟩) e.l.length e.c) e.l.length (e.l.flatMap pmF)
  byt : ∀ e ∈ E, ∀ p ∈ e.l, pmOwn w base p
  u : ∀ e ∈ E, ∀ p ∈ e.l, ∀ x ∈ p.p.b, x < 256
  rows : ∀ (i j : Nat) (e e' : En), E[i]? = some e → E[j]? = some e' → e.g = e'.g → i = j
  keys : (E.map En.t).Nodup
  gmb : base ≤ gm
/-- the blocks of a bus -/
def bfoot (gs gm rg : Nat) (E : List En) : List Nat := gs :: gm :: rg :: E.flatMap En.foot
theorem bfoot_mem {gs gm rg k : Nat} {E : List En} : k ∈ bfoot gs gm rg E ↔ k = gs ∨ k = gm ∨ k = rg ∨ ∃ e ∈ E, k = e.g ∨ ∃ p ∈ e.l, k = p.g := by
  simp only [bfoot, List.mem_cons, List.mem_flatMap, En.foot, List.mem_map]
  constructor
  · rintro (h | h | h | ⟨e, he, h | ⟨p, hp, h⟩⟩)
    · exact .inl h
    · exact .inr (.inl h)
    · exact .inr (.inr (.inl h))
    · exact .inr (.inr (.inr ⟨e, he, .inl h⟩))
    · exact .inr (.inr (.inr ⟨e, he, .inr ⟨p, hp, h.symm⟩⟩))
  · rintro (h | h | h | ⟨e, he, h | ⟨p, hp, h⟩⟩)
    · exact .inl h
    · exact .inr (.inl h)
    · exact .inr (.inr (.inl h))
    · exact .inr (.inr (.inr ⟨e, he, .inl h⟩))
    · exact .inr (.inr (.inr ⟨e, he, .inr ⟨p, hp, h.symm⟩⟩))
section
variable {w wa w1 w2 w' : World} {base gs gm rg rc t j c' : Nat} {rtu : List Bool} {E : List En} {F : List Nat} {A' : Option Addr}
theorem EnMap.fr (h : EnMap w gm E) (k : Fr F w w') (hF : gm ∉ F) : EnMap w' gm E := by
  obtain ⟨es, clock, h1, h2⟩ := h
  exact ⟨es, clock, k.map h1 hF, h2⟩
theorem Parts.fr (h : Parts w base gm rg rc rtu E) (k : Fr F w w') (hF : ∀ b, b ∈ bfoot gm gm rg E → b ∉ F) : Parts w' base gm rg rc rtu E := by
  have m1 : gm ∉ F := hF gm (bfoot_mem.2 (.inl rfl))
  have m2 : rg ∉ F := hF rg (bfoot_mem.2 (.inr (.inr (.inl rfl))))
  have m3 : ∀ e ∈ E, e.g ∉ F := fun e he => hF _ (bfoot_mem.2 (.inr (.inr (.inr ⟨e, he, .inl rfl⟩))))
  have m4 : ∀ e ∈ E, ∀ p ∈ e.l, p.g ∉ F := fun e he p hp => hF _ (bfoot_mem.2 (.inr (.inr (.inr ⟨e, he, .inr ⟨p, hp, rfl⟩⟩))))
  refine ⟨k.own h.rtu (fun p hp => ?_), h.map.fr k m1, fun e he => k.own (h.own e he) (fun p hp => ?_), fun e he q hq => k.own (h.byt e he q hq) (fun p hp => ?_), h.u, h.rows, h.keys, h.gmb⟩
  · obtain rfl := Option.some.inj hp; exact m2
  · obtain rfl := Option.some.inj hp; exact m3 e he
  · obtain rfl := Option.some.inj hp; exact m4 e he q hq
theorem Parts.to (h : Parts w base gm rg rc rtu E) (k : Below w.heap.size w w') : Parts w' base gm rg rc rtu E := h.fr (F := []) (Fr.of_below _ k) (fun _ _ h => by cases h)
/-- the map alone is another one -/
theorem Parts.remap {E0 E' : List En} (hr : w.ownsRow base 4 1 (.slice (some ⟨rg, 0, none⟩) rtu.length rc) rtu.length (rtu.map Value.bool)) (hm0 : EnMap w gm E0) (k : Only gm w w') (hm : EnMap w' gm E') (hgm : base ≤ gm)
    (hown : ∀ (i : Nat) (e : En), E'[i]? = some e → w.ownsRow base 36 3 (.slice (some ⟨e.g, 0, none⟩) e.l.length e.c) e.l.length (e.l.flatMap pmF) ∧ ∀ p ∈ e.l, pmOwn w base p ∧ ∀ x ∈ p.p.b, x < 256)
    (hrows : ∀ (i j : Nat) (e e' : En), E'[i]? = some e → E'[j]? = some e' → e.g = e'.g → i = j) (hkeys : (E'.map En.t).Nodup) : Parts w' base gm rg rc rtu E' := by
  obtain ⟨es, clock, hmi, _⟩ := hm0
  have kf : Fr [gm] w w' := Fr.of_only k (by simp)
  have lift : ∀ {e s n c g : Nat} {xs : List Value}, w.ownsRow base e s (.slice (some ⟨g, 0, none⟩) n c) n xs → w'.ownsRow base e s (.slice (some ⟨g, 0, none⟩) n c) n xs := fun ho => kf.own ho (fun p hp => by
    obtain rfl := Option.some.inj hp
    have := own_map_ne ho hmi
    simpa using this)
  refine ⟨lift hr, hm, fun e he => ?_, fun e he p hp => ?_, fun e he p hp => ?_, hrows, hkeys, hgm⟩
  · obtain ⟨i, hi⟩ := List.getElem?_of_mem he
    exact lift (hown i e hi).1
  · obtain ⟨i, hi⟩ := List.getElem?_of_mem he
    exact lift ((hown i e hi).2 p hp).1
  · obtain ⟨i, hi⟩ := List.getElem?_of_mem he
    exact ((hown i e hi).2 p hp).2
/-- behind an append onto one of its rows, or onto a new one: all others stay -/
theorem Parts.others (h : Parts wa base gm rg rc rtu E) {row : Option Nat} (g1 : wa.grownBy w1 row) (hrow : ∀ k, row = some k → ∃ e ∈ E, e.g = k) :
    EnMap w1 gm E ∧ w1.ownsRow base 4 1 (.slice (some ⟨rg, 0, none⟩) rtu.length rc) rtu.length (rtu.map Value.bool) ∧ (∀ e ∈ E, some e.g ≠ row → w1.ownsRow base 36 3 (.slice (some ⟨e.g, 0, none⟩) e.l.length e.c) e.l.length (e.l.flatMap pmF)) ∧ (∀ p : Pm, pmOwn wa base p → pmOwn w1 base p) := by
  obtain ⟨es, clock, hmi, hkv⟩ := h.map
  have kf : Fr (row.toList) wa w1 := Fr.of_grown g1 (fun k hk => by rw [hk]; simp)
  have nt : ∀ k, (∀ e ∈ E, e.g ≠ k) → k ∉ row.toList := fun k hk hm => by
    have : row = some k := by cases row <;> simp_all
    obtain ⟨e, he, hg⟩ := hrow k this
    exact hk e he hg
  refine ⟨⟨es, clock, kf.map hmi (nt gm (fun e he => own_map_ne (h.own e he) hmi)), hkv⟩, kf.own h.rtu (fun p hp => ?_), fun e he hne => kf.own (h.own e he) (fun p hp => ?_), fun q hq => kf.own hq (fun p hp => ?_)⟩
  · obtain rfl := Option.some.inj hp
    exact nt rg (fun e he => own_ne2 (h.own e he) h.rtu (by decide))
  · obtain rfl := Option.some.inj hp
    intro hm
    apply hne
    cases row <;> simp_all
  · obtain rfl := Option.some.inj hp
    exact nt q.g (fun e he => own_ne2 (h.own e he) hq (by decide))
/-- an append onto the row of entry j, and the update -/
theorem Parts.old (h : Parts wa base gm rg rc rtu E) {e : En} (he : E[j]? = some e) {pm : Pm} (hpm : pmOwn wa base pm) (hu : ∀ x ∈ pm.p.b, x < 256) {N : Nat} (hN : e.l.length + 1 = N)
    (o1 : w1.ownsRow base 36 3 (.slice A' N c') N (e.l.flatMap pmF ++ pmF pm)) (g1 : wa.grownBy w1 (some e.g)) (at1 : (Value.slice A' N c').ownBlock = some e.g ∨ (Value.slice A' N c').ownBlock = some wa.heap.size) :
    ∃ g', A' = some ⟨g', 0, none⟩ ∧ (g' = e.g ∨ g' = wa.heap.size) ∧ EnMap w1 gm E ∧ ∀ w2, EnMap w2 gm (E.set j ⟨e.t, g', c', e.l ++ [pm]⟩) → Only gm w1 w2 → Parts w2 base gm rg rc rtu (E.set j ⟨e.t, g', c', e.l ++ [pm]⟩) := by
  subst hN
  obtain ⟨g', rfl, hb', hl'⟩ := own_somep o1 (by omega)
  have hat : g' = e.g ∨ g' = wa.heap.size := by simpa [Value.ownBlock] using at1
  have hem := List.mem_of_getElem? he
  obtain ⟨k1, k2, k3, k4⟩ := h.others g1 (fun k hk => ⟨e, hem, by injection hk⟩)
  have hlt : ∀ x ∈ E, x.g < wa.heap.size := fun x hx => ((h.own x hx).lt x.g rfl).2
  refine ⟨g', rfl, hat, k1, fun w2 hm ho => ?_⟩
  have hne : ∀ (i : Nat) (x : En), i ≠ j → E[i]? = some x → x.g ≠ e.g := fun i x hij hx hg => hij (h.rows i j x e hx he hg)
  have hne' : ∀ (i : Nat) (x : En), i ≠ j → E[i]? = some x → x.g ≠ g' := fun i x hij hx hg => by
    rcases hat with h1 | h1
    · exact hne i x hij hx (hg.trans h1)
    · have := hlt x (List.mem_of_getElem? hx); omega
  have hset : ∀ (i : Nat) (x : En), (E.set j ⟨e.t, g', c', e.l ++ [pm]⟩)[i]? = some x → (i = j ∧ x = ⟨e.t, g', c', e.l ++ [pm]⟩) ∨ (i ≠ j ∧ E[i]? = some x) := fun i x hx => by
    rw [List.getElem?_set] at hx
    by_cases hij : j = i
    · subst hij
      rw [if_pos rfl, if_pos (List.getElem?_eq_some_iff.1 he).1] at hx
      exact .inl ⟨rfl, (Option.some.inj hx).symm⟩
    · rw [if_neg hij] at hx
      exact .inr ⟨fun e => hij e.symm, hx⟩
  refine Parts.remap (E0 := E) k2 k1 ho hm h.gmb (fun i x hx => ?_) (fun i i' x x' hx hx' hg => ?_) ?_
  · rcases hset i x hx with ⟨rfl, rfl⟩ | ⟨hij, hx⟩
    · refine ⟨by simpa [List.flatMap_append] using o1, fun p hp => ?_⟩
      rcases List.mem_append.1 hp with hp | hp
      · exact ⟨k4 p (h.byt e hem p hp), h.u e hem p hp⟩
      · obtain rfl := List.mem_singleton.1 hp
        exact ⟨k4 p hpm, hu⟩
    · have hxm := List.mem_of_getElem? hx
      exact ⟨k3 x hxm (fun hh => hne i x hij hx (Option.some.inj hh)), fun p hp => ⟨k4 p (h.byt x hxm p hp), h.u x hxm p hp⟩⟩
  · rcases hset i x hx with ⟨e1, e2⟩ | ⟨hij, hx2⟩
    · rcases hset i' x' hx' with ⟨e3, e4⟩ | ⟨hij', hx2'⟩
      · rw [e1, e3]
      · rw [e2] at hg
        exact absurd hg.symm (hne' i' x' hij' hx2')
    · rcases hset i' x' hx' with ⟨e3, e4⟩ | ⟨hij', hx2'⟩
      · rw [e4] at hg
        exact absurd hg (hne' i x hij hx2)
      · exact h.rows i i' x x' hx2 hx2' hg
  · have hk : (E.set j ⟨e.t, g', c', e.l ++ [pm]⟩).map En.t = E.map En.t := by
      apply List.ext_getElem?
      intro i
      rw [List.getElem?_map, List.getElem?_map, List.getElem?_set]
      by_cases hij : j = i
      · subst hij
        rw [if_pos rfl, if_pos (List.getElem?_eq_some_iff.1 he).1, he]
        rfl
      · rw [if_neg hij]
    rw [hk]
    exact h.keys
/-- a row for a new key -/
theorem Parts.new (h : Parts wa base gm rg rc rtu E) (hno : ∀ x ∈ E, x.t ≠ t) {pm : Pm} (hpm : pmOwn wa base pm) (hu : ∀ x ∈ pm.p.b, x < 256)
    (o1 : w1.ownsRow base 36 3 (.slice A' 1 c') 1 (pmF pm)) (g1 : wa.grownBy w1 none) (at1 : (Value.slice A' 1 c').ownBlock = none ∨ (Value.slice A' 1 c').ownBlock = some wa.heap.size) :
    ∃ g', A' = some ⟨g', 0, none⟩ ∧ g' = wa.heap.size ∧ EnMap w1 gm E ∧ ∀ w2, EnMap w2 gm (E ++ [⟨t, g', c', [pm]⟩]) → Only gm w1 w2 → Parts w2 base gm rg rc rtu (E ++ [⟨t, g', c', [pm]⟩]) := by
  obtain ⟨g', rfl, hb', hl'⟩ := own_somep o1 (by omega)
  have hat : g' = wa.heap.size := by simpa [Value.ownBlock] using at1
  obtain ⟨k1, k2, k3, k4⟩ := h.others g1 (fun k hk => by cases hk)
  have hlt : ∀ x ∈ E, x.g < wa.heap.size := fun x hx => ((h.own x hx).lt x.g rfl).2
  refine ⟨g', rfl, hat, k1, fun w2 hm ho => ?_⟩
  have hset : ∀ (i : Nat) (x : En), (E ++ [⟨t, g', c', [pm]⟩])[i]? = some x → (i = E.length ∧ x = ⟨t, g', c', [pm]⟩) ∨ E[i]? = some x := fun i x hx => by
    rw [List.getElem?_append] at hx
    split at hx
    · exact .inr hx
    · have hi : i - E.length = 0 := by
        have := (List.getElem?_eq_some_iff.1 hx).1
        simp at this
        omega
      rw [hi] at hx
      exact .inl ⟨by omega, (Option.some.inj hx).symm⟩
  refine Parts.remap (E0 := E) k2 k1 ho hm h.gmb (fun i x hx => ?_) (fun i i' x x' hx hx' hg => ?_) ?_
  · rcases hset i x hx with ⟨rfl, rfl⟩ | hx
    · refine ⟨by simpa using o1, fun p hp => ?_⟩
      obtain rfl := List.mem_singleton.1 hp
      exact ⟨k4 p hpm, hu⟩
    · have hxm := List.mem_of_getElem? hx
      exact ⟨k3 x hxm (by simp), fun p hp => ⟨k4 p (h.byt x hxm p hp), h.u x hxm p hp⟩⟩
  · rcases hset i x hx with ⟨rfl, rfl⟩ | hx
    · rcases hset i' x' hx' with ⟨rfl, rfl⟩ | hx'
      · rfl
      · have := hlt x' (List.mem_of_getElem? hx'); dsimp only at hg; omega
    · rcases hset i' x' hx' with ⟨rfl, rfl⟩ | hx'
      · have := hlt x (List.mem_of_getElem? hx); dsimp only at hg; omega
      · exact h.rows i i' x x' hx hx' hg
  · rw [List.map_append, List.nodup_append]
    refine ⟨h.keys, by simp, fun a ha b hb => ?_⟩
    obtain ⟨x, hx, rfl⟩ := List.mem_map.1 ha
    simp only [List.map_cons, List.map_nil, List.mem_singleton] at hb
    rw [hb]
    exact hno x hx
/-- a key is struck -/
theorem Parts.drop (h : Parts w base gm rg rc rtu E) (t : Nat) (k : Only gm w w') (hm : EnMap w' gm (E.filter fun e => decide (e.t ≠ t))) : Parts w' base gm rg rc rtu (E.filter fun e => decide (e.t ≠ t)) := by
  have hsub : ∀ e, e ∈ (E.filter fun e => decide (e.t ≠ t)) → e ∈ E := fun e he => (List.mem_filter.1 he).1
  refine Parts.remap (E0 := E) h.rtu h.map k hm h.gmb (fun i e hi => ?_) (fun i j e e' hi hj hg => ?_) ?_
  · have := hsub e (List.mem_of_getElem? hi)
    exact ⟨h.own e this, fun p hp => ⟨h.byt e this p hp, h.u e this p hp⟩⟩
  · have h1 := hsub e (List.mem_of_getElem? hi)
    have h2 := hsub e' (List.mem_of_getElem? hj)
    obtain ⟨a, ha⟩ := List.getElem?_of_mem h1
    obtain ⟨b, hb⟩ := List.getElem?_of_mem h2
    have hab := h.rows a b e e' ha hb hg
    subst hab
    rw [ha] at hb
    obtain rfl := Option.some.inj hb
    have hn : ((E.filter fun e => decide (e.t ≠ t)).map En.t).Nodup := h.keys.sublist ((List.filter_sublist).map _)
    refine (List.getElem?_inj (by have := (List.getElem?_eq_some_iff.1 hi).1; simpa using this) hn).1 ?_
    rw [List.getElem?_map, List.getElem?_map, hi, hj]
  · exact h.keys.sublist ((List.filter_sublist).map _)
end
end Go.Proofs.Ythigkmoilfdciaa
