/- Layer 11: one that was sent comes: `comes` over the memory of all that was sent. -/
import Derived.Test.YthigkmoilfdciaaBuMet
namespace Go.Proofs.Ythigkmoilfdciaa
open Go.RowKit
set_option linter.unusedVariables false
set_option linter.unusedSimpArgs false
theorem own_frozen {w : World} {B e s n c g : Nat} {xs : List Value} (h : w.ownsRow B e s (.slice (some ⟨g, 0, none⟩) n c) n xs) (i : Nat) : w.frozen? ⟨g, i, none⟩ = false := by
  rcases h.2 with ⟨h, _⟩ | ⟨g', cap, cur, hv, hb, hh, _⟩
  · cases h
  obtain ⟨rfl, rfl⟩ : g = g' ∧ c = cap := by simpa using hv
  have h1 : RowAt w g e cur.toList := by unfold RowAt; rw [hh]
  exact h1.frozen i
theorem map_set_same {S : List Snt} {j : Nat} {x y : Snt} (hx : S[j]? = some x) (h : y.p = x.p) : (S.set j y).map Snt.p = S.map Snt.p := by
  apply List.ext_getElem?
  intro i
  rw [List.getElem?_map, List.getElem?_map, List.getElem?_set]
  by_cases e : j = i
  · subst e
    rw [if_pos rfl, if_pos (List.getElem?_eq_some_iff.1 hx).1, hx]
    simp [h]
  · rw [if_neg e]
/-- what `comes` leaves of all that was sent -/
def ComeAt (w : World) (rl : List Bool) (B gL gA n c : Nat) (S : List Snt) (U : List Gh) (e : Ending) (w' : World) : Prop :=
  e = .returned (.bool true) ∧ ∃ S', Alls w' B gL (some ⟨gA, 0, none⟩) n c S' ∧ OnI rl S' U ∧ (∀ g, gpar rl S' g = gpar rl S g) ∧ S'.map Snt.p = S.map Snt.p ∧ Fr [gA] w w'
theorem comes_at (w : World) {rl : List Bool} {B gL gA n c br orr n0 c0 pg pc nb ns jo : Nat} {up : Bool} {S : List Snt} {U : List Gh} {g : Gh} {x : Snt} {pb : List Nat} (c' : Nat) (hA : Alls w B gL (some ⟨gA, 0, none⟩) n c S) (hI : OnI rl S (g :: U)) (hx : S[g.j]? = some x) (hrt : Sq Value.bool w w.heap.size (some ⟨br, orr, none⟩) rl) (hn0 : rl.length = n0) (hpb : pb = gbytes rl x g.snd) (hp : Sq byw w w.heap.size (some ⟨pg, 0, none⟩) pb) (hs : x.p.p.s = (ns : Int)) (hup : x.p.p.up = up) (hnb : x.p.p.b.length = nb) (hj : g.j * 11 = jo) (hc' : 1 ≤ c') :
    Calls Try.prog 20 #[.slice (some ⟨gA, jo, none⟩) 1 c', .agg (pmV (ns : Int) up (some ⟨pg, 0, none⟩) nb pc).toArray, .slice (some ⟨br, orr, none⟩) n0 c0] w (ComeAt w rl B gL gA n c S U) := by
  have hok := hI.ok _ _ hx
  obtain ⟨x', hx', hlost⟩ := hI.lt g List.mem_cons_self
  rw [hx] at hx'
  obtain rfl := Option.some.inj hx'
  have cel := sent_at hA.own hx
  have hby := Sq.of_own (f := byw) (hA.byt x (List.mem_of_getElem? hx))
  have hfz := own_frozen hA.own
  have hl3 := hok.l3
  have hu := hok.u
  have hu' : ∀ y ∈ pb, y < 256 := by rw [hpb]; exact gbytes_u hok _
  have hlen : pb.length = x.p.p.b.length := by rw [hpb]; exact gbytes_len _ _ _
  have hs1 := hok.s1
  have hgA : gA < w.heap.size := (own_at_s hA.own _ rfl).2.1
  have fin : ∀ (i : Nat) (v : Int) (y : Snt), i < 11 → (sntF x).set i (.int .i64 v) = sntF y → y.p = x.p → y.f = x.f → OnI rl (S.set g.j y) U → ∀ e w', CameP w gA (g.j * 11 + i) v e w' → ComeAt w rl B gL gA n c S U e w' := fun i v y hi he hyp hyf hOI e w' h => by
    obtain ⟨rfl, w1, hb, rfl⟩ := h
    refine ⟨rfl, S.set g.j y, (hA.to hb).put hx hi _ he hyp, hOI, fun g' => gpar_set hx (by rw [hyp]) hyf g', map_set_same hx hyp, ?_⟩
    exact (Fr.of_below [gA] hb).trans (Fr.of_only (b := gA) (F := [gA]) ((Only.refl _ _).set _) List.mem_cons_self) (fun b hb => .inl hb)
  by_cases hd : x.p.p.b = pb
  · obtain ⟨h1, h2⟩ := hI.same hx
    refine Calls.mono ?_ (fin 9 ((x.came + 1 : Nat) : Int) ⟨x.p, x.f, x.came + 1, x.wrong⟩ (by decide) (by rfl) rfl rfl h2)
    subst hj
    have d0 := cel 0 _ rfl
    rw [hs] at d0
    have d1 := cel 1 _ rfl
    rw [hup] at d1
    have d2 := cel 2 _ rfl
    rw [hnb] at d2
    have d3 := cel 3 _ rfl
    rw [hlost] at d3
    rw [← hd] at hp
    exact comes_same gA (g.j * 11) c' ns up x.p.A (some ⟨pg, 0, none⟩) x.p.p.b nb x.p.c pc x.f.twice x.came x.wrong (some ⟨br, orr, none⟩) n0 c0 w hnb hby hp (by omega) hu d0 d1 d2 d3 (cel 4 _ rfl) (cel 9 _ rfl) (cel 10 _ rfl) (hfz _) hc' h1
  · obtain ⟨h1, h2, h3, h4, h5⟩ := hI.wrong hx (by rw [← hpb]; exact hd)
    refine Calls.mono ?_ (fin 10 1 ⟨x.p, x.f, x.came, 1⟩ (by decide) (by rfl) rfl rfl h5)
    subst hj
    have d0 := cel 0 _ rfl
    rw [hs] at d0
    have d1 := cel 1 _ rfl
    rw [hup] at d1
    have d2 := cel 2 _ rfl
    rw [hnb] at d2
    have d3 := cel 3 _ rfl
    rw [hlost] at d3
    have d10 := cel 10 _ rfl
    rw [h1] at d10
    rw [hs] at h3 hs1
    have hnsl : ns < rl.length := by omega
    have hrtc : w.cell? ⟨br, orr + ns, none⟩ = some (.bool true) := by
      obtain ⟨b', o', y, hA', _, hy, hc2⟩ := hrt.at_ hnsl
      injection hA' with h7
      injection h7 with h8 h9
      subst h8 h9
      rw [List.getD_eq_getElem?_getD, show ((ns : Int)).toNat = ns from rfl, hy] at h3
      obtain rfl : y = true := h3
      exact hc2
    rw [hnb, ← hpb] at h4
    exact comes_wrong gA (g.j * 11) c' ns up x.p.A (some ⟨pg, 0, none⟩) x.p.p.b pb nb x.p.c pc x.f.twice x.came (x.f.at_ % (8 * nb)) br orr n0 c0 w hnb (by rw [hlen, hnb]) hby hp (by omega) hu hu' hd d0 d1 d2 d3 (cel 4 _ rfl) (cel 9 _ rfl) d10 (hfz _) hc' h2 hrtc (by omega) h4
end Go.Proofs.Ythigkmoilfdciaa
