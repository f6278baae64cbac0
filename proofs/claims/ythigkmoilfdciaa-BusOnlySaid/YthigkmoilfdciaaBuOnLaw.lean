/- Layer 11: the plain law of BusOnly: what is under way, and how often each came. No program in sight. -/
import Derived.Test.YthigkmoilfdciaaBuSnt
namespace Go.Proofs.Ythigkmoilfdciaa
set_option linter.unusedVariables false
set_option linter.unusedSimpArgs false
/-- something under way: when it comes, of which one that was sent, whether it is the second -/
structure Gh where
  t : Nat
  j : Nat
  snd : Bool
/-- bytes as they come -/
def gbytes (rl : List Bool) (x : Snt) (snd : Bool) : List Nat := if snd = true then x.p.p.b else Bu.turned x.p.p.b x.f.at_ (if rl.getD x.p.p.s.toNat false = true then x.f.turns else 0)
def gpar (rl : List Bool) (S : List Snt) (g : Gh) : Par := match S[g.j]? with | some x => ⟨x.p.p.s, x.p.p.up, gbytes rl x g.snd⟩ | none => ⟨0, false, []⟩
def wantF (f : Fa) : Nat := if f.lost = true then 0 else if f.twice = true then 2 else 1
def cntJ (U : List Gh) (j : Nat) : Nat := (U.filter fun g => decide (g.j = j)).length
def cnt1 (U : List Gh) (j : Nat) : Nat := (U.filter fun g => decide (g.j = j ∧ g.snd = false)).length
/-- one that was sent is as it should be: its number stands in its first two bytes, which no fate turns -/
structure SOk (rl : List Bool) (j : Nat) (x : Snt) : Prop where
  s0 : 0 ≤ x.p.p.s
  s1 : x.p.p.s < (rl.length : Int)
  l2 : 2 ≤ x.p.p.b.length
  l3 : x.p.p.b.length ≤ 300
  num : x.p.p.b.getD 0 0 * 256 + x.p.p.b.getD 1 0 = j
  u : ∀ y ∈ x.p.p.b, y < 256
  fit : x.f.Fit
  tu : x.f.turns = 0 ∨ 16 ≤ x.f.at_ % (8 * x.p.p.b.length)
structure OnI (rl : List Bool) (S : List Snt) (U : List Gh) : Prop where
  lt : ∀ g ∈ U, ∃ x, S[g.j]? = some x ∧ x.f.lost = false
  cnt : ∀ j x, S[j]? = some x → cntJ U j + x.came + x.wrong = wantF x.f
  one : ∀ j x, S[j]? = some x → cnt1 U j + x.wrong ≤ 1
  ok : ∀ j x, S[j]? = some x → SOk rl j x
namespace Bu
theorem mask_no {T : Nat → Bool} {j : Nat} (h : ∀ q, q < 8 → T (8 * j + q) = false) : maskTo T j 8 = 0 := by
  rw [mask_congr (T' := fun _ => false) h]
  have hz : ∀ k, maskTo (fun _ => false) j k = 0 := by
    intro k
    induction k with
    | zero => rfl
    | succ k ih => rw [maskTo, ih]; simp
  exact hz 8
theorem turned_head {b : List Nat} {a t i : Nat} (hi : i < 2) (hb : 2 ≤ b.length) (h : t = 0 ∨ 16 ≤ a % (8 * b.length)) : (turned b a t).getD i 0 = b.getD i 0 := by
  rcases h with rfl | h
  · rw [turned_zero]
  · unfold turned
    have hx : b[i]? = some b[i] := List.getElem?_eq_getElem (by omega)
    rw [List.getD_eq_getElem?_getD, List.getD_eq_getElem?_getD, turn_get hx, hx, mask_no (fun q hq => ?_), Nat.xor_zero]
    unfold tset
    rw [Bool.and_eq_false_iff]
    exact .inl (decide_eq_false (by omega))
theorem turned_near {b : List Nat} {a t n : Nat} (hb : 1 ≤ b.length) (hn : n < 8 * b.length) (h : bitAt b n ≠ bitAt (turned b a t) n) : a % (8 * b.length) ≤ n ∧ n < a % (8 * b.length) + 16 := by
  obtain ⟨f, hf⟩ : ∃ f, a % (8 * b.length) = f := ⟨_, rfl⟩
  rw [hf]
  by_cases hT : tset f t 16 n = true
  · unfold tset at hT
    rw [Bool.and_eq_true] at hT
    exact of_decide_eq_true hT.1
  · exfalso
    apply h
    have hj : n / 8 < b.length := by omega
    have hx : b[n / 8]? = some b[n / 8] := List.getElem?_eq_getElem hj
    unfold bitAt turned
    rw [hf, List.getD_eq_getElem?_getD, List.getD_eq_getElem?_getD, turn_get hx, hx]
    simp only [Option.getD_some]
    have hb1 : (b[n / 8] ^^^ maskTo (tset f t 16) (n / 8) 8).testBit (n % 8) = b[n / 8].testBit (n % 8) := by
      rw [Nat.testBit_xor, maskTo_bit]
      have e : 8 * (n / 8) + n % 8 = n := Nat.div_add_mod n 8
      rw [e]
      have : tset f t 16 n = false := by simpa using hT
      rw [this]
      simp
    rw [Nat.testBit_eq_decide_div_mod_eq, Nat.testBit_eq_decide_div_mod_eq, decide_eq_decide] at hb1
    have h1 := Nat.mod_two_eq_zero_or_one (b[n / 8] / 2 ^ (n % 8))
    have h2 := Nat.mod_two_eq_zero_or_one ((b[n / 8] ^^^ maskTo (tset f t 16) (n / 8) 8) / 2 ^ (n % 8))
    omega
end Bu
theorem gbytes_len (rl : List Bool) (x : Snt) (snd : Bool) : (gbytes rl x snd).length = x.p.p.b.length := by
  unfold gbytes
  split
  · rfl
  · exact Bu.turned_length _ _ _
theorem gbytes_u {rl : List Bool} {j : Nat} {x : Snt} (h : SOk rl j x) (snd : Bool) : ∀ y ∈ gbytes rl x snd, y < 256 := by
  unfold gbytes
  split
  · exact h.u
  · exact Bu.turn_u h.u
theorem gbytes_num {rl : List Bool} {j : Nat} {x : Snt} (h : SOk rl j x) (snd : Bool) : (gbytes rl x snd).getD 0 0 * 256 + (gbytes rl x snd).getD 1 0 = j := by
  have hh : ∀ i, i < 2 → (gbytes rl x snd).getD i 0 = x.p.p.b.getD i 0 := fun i hi => by
    unfold gbytes
    split
    · rfl
    · refine Bu.turned_head hi h.l2 ?_
      split
      · exact h.tu
      · exact .inl rfl
  rw [hh 0 (by decide), hh 1 (by decide)]
  exact h.num
theorem gpar_at {rl : List Bool} {S : List Snt} {g : Gh} {x : Snt} (h : S[g.j]? = some x) : gpar rl S g = ⟨x.p.p.s, x.p.p.up, gbytes rl x g.snd⟩ := by unfold gpar; rw [h]
theorem gpar_set {rl : List Bool} {S : List Snt} {j : Nat} {x y : Snt} (h : S[j]? = some x) (h1 : y.p.p = x.p.p) (h2 : y.f = x.f) (g : Gh) : gpar rl (S.set j y) g = gpar rl S g := by
  have hj : j < S.length := (List.getElem?_eq_some_iff.1 h).1
  unfold gpar
  rw [List.getElem?_set]
  by_cases hg : j = g.j
  · subst hg
    rw [if_pos rfl, if_pos hj, h]
    simp only [gbytes, h1, h2]
  · rw [if_neg hg]
theorem cntJ_cons (g : Gh) (U : List Gh) (j : Nat) : cntJ (g :: U) j = (if g.j = j then 1 else 0) + cntJ U j := by
  unfold cntJ
  rw [List.filter_cons]
  by_cases h : g.j = j
  · rw [if_pos (decide_eq_true h), if_pos h, List.length_cons]; omega
  · rw [if_neg (by simpa using h), if_neg h]; omega
theorem cnt1_cons (g : Gh) (U : List Gh) (j : Nat) : cnt1 (g :: U) j = (if g.j = j ∧ g.snd = false then 1 else 0) + cnt1 U j := by
  unfold cnt1
  rw [List.filter_cons]
  by_cases h : g.j = j ∧ g.snd = false
  · rw [if_pos (decide_eq_true h), if_pos h, List.length_cons]; omega
  · rw [if_neg (by simpa using h), if_neg h]; omega
theorem want_most {f : Fa} (h : f.lost = false) : wantF f = if f.twice = true then 2 else 1 := by unfold wantF; rw [h]; simp
section
variable {rl : List Bool} {S : List Snt} {U : List Gh} {g : Gh} {x : Snt}
/-- one comes as it was -/
theorem OnI.same (h : OnI rl S (g :: U)) (hx : S[g.j]? = some x) : x.came + x.wrong < (if x.f.twice = true then 2 else 1) ∧ OnI rl (S.set g.j ⟨x.p, x.f, x.came + 1, x.wrong⟩) U := by
  have hj : g.j < S.length := (List.getElem?_eq_some_iff.1 hx).1
  obtain ⟨x', hx', hl⟩ := h.lt g List.mem_cons_self
  rw [hx] at hx'
  obtain rfl := Option.some.inj hx'
  have hc := h.cnt _ _ hx
  rw [cntJ_cons, if_pos rfl, want_most hl] at hc
  refine ⟨by omega, ⟨fun g' hg' => ?_, fun j y hy => ?_, fun j y hy => ?_, fun j y hy => ?_⟩⟩
  · obtain ⟨y, hy, hyl⟩ := h.lt g' (List.mem_cons_of_mem _ hg')
    rw [List.getElem?_set]
    by_cases e : g.j = g'.j
    · rw [if_pos e, if_pos hj]
      rw [← e, hx] at hy
      obtain rfl := Option.some.inj hy
      exact ⟨_, rfl, hl⟩
    · rw [if_neg e]
      exact ⟨y, hy, hyl⟩
  · rw [List.getElem?_set] at hy
    by_cases e : g.j = j
    · subst e
      rw [if_pos rfl, if_pos hj] at hy
      obtain rfl := Option.some.inj hy
      show cntJ U g.j + (x.came + 1) + x.wrong = wantF x.f
      rw [want_most hl]
      omega
    · rw [if_neg e] at hy
      have := h.cnt j y hy
      rw [cntJ_cons, if_neg e] at this
      omega
  · rw [List.getElem?_set] at hy
    by_cases e : g.j = j
    · subst e
      rw [if_pos rfl, if_pos hj] at hy
      obtain rfl := Option.some.inj hy
      have := h.one _ _ hx
      rw [cnt1_cons] at this
      show cnt1 U g.j + x.wrong ≤ 1
      omega
    · rw [if_neg e] at hy
      have := h.one j y hy
      rw [cnt1_cons] at this
      omega
  · rw [List.getElem?_set] at hy
    by_cases e : g.j = j
    · subst e
      rw [if_pos rfl, if_pos hj] at hy
      obtain rfl := Option.some.inj hy
      have := h.ok _ _ hx
      exact ⟨this.s0, this.s1, this.l2, this.l3, this.num, this.u, this.fit, this.tu⟩
    · rw [if_neg e] at hy
      exact h.ok j y hy
/-- one comes with bits turned -/
theorem OnI.wrong (h : OnI rl S (g :: U)) (hx : S[g.j]? = some x) (hd : x.p.p.b ≠ gbytes rl x g.snd) :
    x.wrong = 0 ∧ x.came < (if x.f.twice = true then 2 else 1) ∧ rl.getD x.p.p.s.toNat false = true ∧ (∀ k, k < 8 * x.p.p.b.length → bitAt x.p.p.b k ≠ bitAt (gbytes rl x g.snd) k → x.f.at_ % (8 * x.p.p.b.length) ≤ k ∧ k < x.f.at_ % (8 * x.p.p.b.length) + 16) ∧ OnI rl (S.set g.j ⟨x.p, x.f, x.came, 1⟩) U := by
  have hj : g.j < S.length := (List.getElem?_eq_some_iff.1 hx).1
  obtain ⟨x', hx', hl⟩ := h.lt g List.mem_cons_self
  rw [hx] at hx'
  obtain rfl := Option.some.inj hx'
  have hsnd : g.snd = false := by
    cases hs : g.snd
    · rfl
    · exfalso; apply hd; unfold gbytes; rw [hs, if_pos rfl]
  have hrt : rl.getD x.p.p.s.toNat false = true := by
    cases hs : rl.getD x.p.p.s.toNat false
    · exfalso; apply hd; unfold gbytes; rw [hsnd, hs, if_neg (by decide), if_neg (by decide), Bu.turned_zero]
    · rfl
  have hc := h.cnt _ _ hx
  rw [cntJ_cons, if_pos rfl, want_most hl] at hc
  have h1 := h.one _ _ hx
  rw [cnt1_cons, if_pos ⟨rfl, hsnd⟩] at h1
  have hw : x.wrong = 0 := by omega
  refine ⟨hw, by omega, hrt, fun k hk hb => ?_, ⟨fun g' hg' => ?_, fun j y hy => ?_, fun j y hy => ?_, fun j y hy => ?_⟩⟩
  · unfold gbytes at hb
    rw [hsnd, if_neg (by decide)] at hb
    exact Bu.turned_near (by have := (h.ok _ _ hx).l2; omega) hk hb
  · obtain ⟨y, hy, hyl⟩ := h.lt g' (List.mem_cons_of_mem _ hg')
    rw [List.getElem?_set]
    by_cases e : g.j = g'.j
    · rw [if_pos e, if_pos hj]
      exact ⟨_, rfl, hl⟩
    · rw [if_neg e]
      exact ⟨y, hy, hyl⟩
  · rw [List.getElem?_set] at hy
    by_cases e : g.j = j
    · subst e
      rw [if_pos rfl, if_pos hj] at hy
      obtain rfl := Option.some.inj hy
      show cntJ U g.j + x.came + 1 = wantF x.f
      rw [want_most hl]
      omega
    · rw [if_neg e] at hy
      have := h.cnt j y hy
      rw [cntJ_cons, if_neg e] at this
      omega
  · rw [List.getElem?_set] at hy
    by_cases e : g.j = j
    · subst e
      rw [if_pos rfl, if_pos hj] at hy
      obtain rfl := Option.some.inj hy
      show cnt1 U g.j + 1 ≤ 1
      omega
    · rw [if_neg e] at hy
      have := h.one j y hy
      rw [cnt1_cons] at this
      omega
  · rw [List.getElem?_set] at hy
    by_cases e : g.j = j
    · subst e
      rw [if_pos rfl, if_pos hj] at hy
      obtain rfl := Option.some.inj hy
      have := h.ok _ _ hx
      exact ⟨this.s0, this.s1, this.l2, this.l3, this.num, this.u, this.fit, this.tu⟩
    · rw [if_neg e] at hy
      exact h.ok j y hy
/-- in another order -/
theorem OnI.perm {U' : List Gh} (h : OnI rl S U) (p : U.Perm U') : OnI rl S U' :=
  ⟨fun g hg => h.lt g (p.mem_iff.2 hg), fun j x hx => by rw [← h.cnt j x hx]; unfold cntJ; rw [(p.filter _).length_eq], fun j x hx => by have := h.one j x hx; unfold cnt1 at this ⊢; rw [← (p.filter _).length_eq]; exact this, h.ok⟩
theorem OnI.tick (h : OnI rl S U) (T : Nat) : OnI rl S ((U.filter fun g => decide (g.t = T)) ++ U.filter fun g => decide (g.t ≠ T)) := by
  refine h.perm ?_
  have e : (U.filter fun g => decide (g.t ≠ T)) = U.filter (fun g => !decide (g.t = T)) := by
    congr 1
    funext g
    simp
  rw [e]
  exact (List.filter_append_perm _ U).symm
theorem cntJ_append (U V : List Gh) (j : Nat) : cntJ (U ++ V) j = cntJ U j + cntJ V j := by unfold cntJ; rw [List.filter_append, List.length_append]
theorem cnt1_append (U V : List Gh) (j : Nat) : cnt1 (U ++ V) j = cnt1 U j + cnt1 V j := by unfold cnt1; rw [List.filter_append, List.length_append]
theorem cnt_none {U : List Gh} {j : Nat} (h : ∀ g ∈ U, g.j < j) : cntJ U j = 0 ∧ cnt1 U j = 0 := by
  unfold cntJ cnt1
  rw [List.length_eq_zero_iff, List.length_eq_zero_iff, List.filter_eq_nil_iff, List.filter_eq_nil_iff]
  exact ⟨fun g hg e => by have := h g hg; have := of_decide_eq_true e; omega, fun g hg e => by have := h g hg; have := (of_decide_eq_true e).1; omega⟩
/-- what one that was sent is under way as -/
def news (time j : Nat) (f : Fa) : List Gh := if f.lost = true then [] else ⟨time + 1 + f.wait, j, false⟩ :: (if f.twice = true then [⟨time + 1 + f.again, j, true⟩] else [])
theorem OnI.lt' (h : OnI rl S U) : ∀ g ∈ U, g.j < S.length := fun g hg => by
  obtain ⟨x, hx, _⟩ := h.lt g hg
  exact (List.getElem?_eq_some_iff.1 hx).1
/-- one more is sent -/
theorem OnI.send (h : OnI rl S U) (time : Nat) (hx : SOk rl S.length ⟨x.p, x.f, 0, 0⟩) : OnI rl (S ++ [⟨x.p, x.f, 0, 0⟩]) (U ++ news time S.length x.f) := by
  have hlt := h.lt'
  have hn := cnt_none (U := U) hlt
  have hnj : ∀ g ∈ news time S.length x.f, g.j = S.length ∧ x.f.lost = false := fun g hg => by
    unfold news at hg
    split at hg
    · cases hg
    · rename_i hl
      refine ⟨?_, by simpa using hl⟩
      rcases List.mem_cons.1 hg with rfl | hg
      · rfl
      · split at hg
        · obtain rfl := List.mem_singleton.1 hg; rfl
        · cases hg
  have hc : cntJ (news time S.length x.f) S.length = wantF x.f ∧ cnt1 (news time S.length x.f) S.length ≤ 1 := by
    unfold news wantF
    by_cases hl : x.f.lost = true
    · rw [if_pos hl, if_pos hl]; exact ⟨rfl, Nat.zero_le _⟩
    · rw [if_neg hl, if_neg hl]
      by_cases ht : x.f.twice = true
      · rw [if_pos ht, if_pos ht]; simp [cntJ, cnt1]
      · rw [if_neg ht, if_neg ht]; simp [cntJ, cnt1]
  have hz : ∀ j, j < S.length → cntJ (news time S.length x.f) j = 0 ∧ cnt1 (news time S.length x.f) j = 0 := fun j hj => by
    unfold cntJ cnt1
    rw [List.length_eq_zero_iff, List.length_eq_zero_iff, List.filter_eq_nil_iff, List.filter_eq_nil_iff]
    exact ⟨fun g hg e => by have := (hnj g hg).1; have := of_decide_eq_true e; omega, fun g hg e => by have := (hnj g hg).1; have := (of_decide_eq_true e).1; omega⟩
  have hget : ∀ j y, (S ++ [(⟨x.p, x.f, 0, 0⟩ : Snt)])[j]? = some y → (j < S.length ∧ S[j]? = some y) ∨ (j = S.length ∧ y = ⟨x.p, x.f, 0, 0⟩) := fun j y hy => by
    by_cases e : j < S.length
    · rw [List.getElem?_append_left e] at hy
      exact .inl ⟨e, hy⟩
    · have h1 := (List.getElem?_eq_some_iff.1 hy).1
      rw [List.length_append, List.length_singleton] at h1
      obtain rfl : j = S.length := by omega
      rw [List.getElem?_append_right (Nat.le_refl _), Nat.sub_self] at hy
      exact .inr ⟨rfl, (Option.some.inj hy).symm⟩
  refine ⟨fun g hg => ?_, fun j y hy => ?_, fun j y hy => ?_, fun j y hy => ?_⟩
  · rcases List.mem_append.1 hg with hg | hg
    · obtain ⟨y, hy, hl⟩ := h.lt g hg
      exact ⟨y, by rw [List.getElem?_append_left (hlt g hg)]; exact hy, hl⟩
    · obtain ⟨h1, h2⟩ := hnj g hg
      exact ⟨⟨x.p, x.f, 0, 0⟩, by rw [h1, List.getElem?_append_right (Nat.le_refl _), Nat.sub_self]; rfl, h2⟩
  · rw [cntJ_append]
    rcases hget j y hy with ⟨e, hy⟩ | ⟨rfl, rfl⟩
    · rw [(hz j e).1]; exact h.cnt j y hy
    · rw [hn.1, hc.1]; show 0 + wantF x.f + 0 + 0 = wantF x.f; omega
  · rw [cnt1_append]
    rcases hget j y hy with ⟨e, hy⟩ | ⟨rfl, rfl⟩
    · rw [(hz j e).2]; exact h.one j y hy
    · rw [hn.2]; show 0 + _ + 0 ≤ 1; have := hc.2; omega
  · rcases hget j y hy with ⟨e, hy⟩ | ⟨rfl, rfl⟩
    · exact h.ok j y hy
    · exact hx
/-- the bus, and what is under way -/
structure BusU (rl : List Bool) (b : Bu) (S : List Snt) (U : List Gh) : Prop where
  rtu : b.rtu = rl
  l : b.l = U.map fun g => (g.t, gpar rl S g)
  late : ∀ g ∈ U, b.time < g.t
theorem gpar_app (rl : List Bool) (S : List Snt) (y : Snt) (g : Gh) (h : g.j < S.length) : gpar rl (S ++ [y]) g = gpar rl S g := by unfold gpar; rw [List.getElem?_append_left h]
theorem BusU.send {b : Bu} (h : BusU rl b S U) (hlt : ∀ g ∈ U, g.j < S.length) : BusU rl (b.send x.p.p x.f) (S ++ [⟨x.p, x.f, 0, 0⟩]) (U ++ news b.time S.length x.f) := by
  have hmap : (U.map fun g => (g.t, gpar rl (S ++ [⟨x.p, x.f, 0, 0⟩]) g)) = U.map fun g => (g.t, gpar rl S g) := List.map_congr_left fun g hg => by rw [gpar_app _ _ _ _ (hlt g hg)]
  have hnew : ∀ (t : Nat) (s : Bool), gpar rl (S ++ [⟨x.p, x.f, 0, 0⟩]) ⟨t, S.length, s⟩ = ⟨x.p.p.s, x.p.p.up, gbytes rl x s⟩ := fun t s => by
    refine gpar_at (g := ⟨t, S.length, s⟩) (x := ⟨x.p, x.f, 0, 0⟩) ?_
    show (S ++ [_])[S.length]? = _
    rw [List.getElem?_append_right (Nat.le_refl _), Nat.sub_self]
    rfl
  have hr := h.rtu
  refine ⟨?_, ?_, fun g hg => ?_⟩
  · unfold Bu.send; split <;> exact hr
  · rw [List.map_append, hmap, ← h.l]
    unfold Bu.send news
    by_cases hl : x.f.lost = true
    · rw [if_pos hl, if_pos hl]; simp
    · rw [if_neg hl, if_neg hl]
      dsimp only
      congr 1
      rw [List.map_cons, hnew, hr]
      unfold gbytes
      rw [if_neg (show ¬ (false = true) by decide)]
      congr 1
      by_cases ht : x.f.twice = true
      · rw [if_pos ht, if_pos ht, List.map_cons, hnew]
        unfold gbytes
        rw [if_pos rfl]
        rfl
      · rw [if_neg ht, if_neg ht]; rfl
  · have ht : (b.send x.p.p x.f).time = b.time := by unfold Bu.send; split <;> rfl
    rw [ht]
    rcases List.mem_append.1 hg with hg | hg
    · exact h.late g hg
    · unfold news at hg
      split at hg
      · cases hg
      · rcases List.mem_cons.1 hg with rfl | hg
        · show b.time < b.time + 1 + _; omega
        · split at hg
          · obtain rfl := List.mem_singleton.1 hg; show b.time < b.time + 1 + _; omega
          · cases hg
theorem BusU.tick {b : Bu} (h : BusU rl b S U) : b.tick.2 = (U.filter fun g => decide (g.t = b.time + 1)).map (gpar rl S) ∧ ∀ S', (∀ g, gpar rl S' g = gpar rl S g) → BusU rl b.tick.1 S' (U.filter fun g => decide (g.t ≠ b.time + 1)) := by
  constructor
  · unfold Bu.tick
    dsimp only
    rw [h.l, List.filter_map, List.map_map]
    rfl
  · intro S' hS
    refine ⟨h.rtu, ?_, fun g hg => ?_⟩
    · unfold Bu.tick
      dsimp only
      rw [h.l, List.filter_map]
      exact List.map_congr_left fun g _ => by rw [hS]
    · have h1 := List.mem_filter.1 hg
      have h2 := h.late g h1.1
      have h3 := of_decide_eq_true h1.2
      show b.time + 1 < g.t
      omega
end
end Go.Proofs.Ythigkmoilfdciaa
