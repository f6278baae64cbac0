/- copy into a row of bytes of the call's own. -/
import Derived.Test.YthigkmoilfdciaaOwn
import Derived.Laws.CopyOwn
namespace Go.Proofs.Ythigkmoilfdciaa
open Go.RowKit
set_option linter.unusedVariables false
abbrev byw (x : Nat) : Value := .int .u8 (x : Int)
theorem info_b8 : (Try.prog.info? 5).map (fun i => (i.zero, i.size, i.bytes)) = some (some (.int .u8 0), 1, 1) := by kernel_rfl
theorem own_full {w : World} {base e g n : Nat} {xs : List Value} (h : w.ownsRow base e 1 (.slice (some ⟨g, 0, none⟩) n n) n xs) : w.heap[g]? = some (.cells xs.toArray e (0, 0)) ∧ base ≤ g ∧ n ≤ maxLen := by
  rcases h.2 with ⟨h1, _⟩ | ⟨g', cap, cur, hv, hg, hh, _, hm, hs, ht⟩
  · cases h1
  · obtain ⟨rfl, rfl⟩ : g = g' ∧ n = cap := by simpa using hv
    refine ⟨?_, hg, hm⟩
    rw [hh, ← ht, List.take_of_length_le (by simpa using (show cur.size ≤ n by omega))]
theorem own_of_full {w : World} {base e g n : Nat} {xs : List Value} (h : w.heap[g]? = some (.cells xs.toArray e (0, 0))) (hb : base ≤ g) (hn : xs.length = n) (hm : n ≤ maxLen) : w.ownsRow base e 1 (.slice (some ⟨g, 0, none⟩) n n) n xs :=
  ⟨by omega, .inr ⟨g, n, xs.toArray, rfl, hb, h, Nat.le_refl _, hm, by simpa using hn, by simp [← hn]⟩⟩
theorem splice_map {α β : Type} (f : α → β) (L X : List α) (off : Nat) : splice (L.map f) off (X.map f) = (splice L off X).map f := by simp [splice]
theorem size_b8 : (Try.prog.info? 5).map (·.size) = some 1 := by kernel_rfl
theorem wpList_copy_bytes {w : World} {ops : Array Oper} {rest : List Oper} {o : Oper} {a : Act} {Q : Exit → Act → World → Prop} (hgd : o.guard = none) (d s : Operand)
    (ho : o.op = .call { callee := .builtin .copy, args := #[d, s], argTypes := #[34, 34] }) (base g off N : Nat) (L X : List Nat) (hown : w.ownsRow base 5 1 (.slice (some ⟨g, 0, none⟩) N N) N (L.map byw))
    (dp : Option Addr) (dLen dCap : Nat) (hd : a.eval d = .slice dp dLen dCap) (hdp : 0 < X.length → dp = some ⟨g, off, none⟩) (Ax : Option Addr) (m cx B : Nat) (hs : a.eval s = .slice Ax m cx) (hm : X.length = m) (hmd : m ≤ dLen) (hX : Sq byw w B Ax X) (hoff : off + m ≤ N)
    (h : ∀ w', w'.ownsRow base 5 1 (.slice (some ⟨g, 0, none⟩) N N) N ((splice L off X).map byw) → Below base w w' → wpList Try.prog ops Q rest (a.put o.dst (goInt m)) w') :
    wpList Try.prog ops Q (o :: rest) a w := by
  obtain ⟨hh, hbg, hN⟩ := own_full hown
  have hLl : L.length = N := by have := hown.1; simpa using this
  refine wpList_copy_splice hgd d s _ _ ho 5 Try.underlying34 size_b8 dp Ax dLen dCap m cx hd hs g off (L.map byw) 5 hh (X.map byw) (by rw [List.length_map, hm]; exact (Nat.min_eq_left hmd).symm) (fun hp => ?_) (by simp; omega) (by intro v hv; obtain ⟨x, _, rfl⟩ := List.mem_map.1 hv; rfl) base w (Below.refl _ _) hbg (fun w' hg' hb' => ?_)
  · rw [List.length_map] at hp
    obtain ⟨b2, o2, rfl, _, hc⟩ := hX hp
    refine ⟨hdp hp, _, rfl, fun j v hv => ?_⟩
    have hadd : (⟨b2, o2, none⟩ : Addr).add j = ⟨b2, o2 + j, none⟩ := by unfold Addr.add; split <;> simp_all
    rw [hadd]
    simp only [List.getElem?_map, Option.map_eq_some_iff] at hv
    obtain ⟨y, hy, rfl⟩ := hv
    exact hc j y hy
  · have hl2 : (X.map byw).length = m := by simp [hm]
    rw [hl2]
    refine h w' ?_ hb'
    rw [← splice_map]
    exact own_of_full hg'.out hbg (by rw [length_splice _ _ _ (by simp; omega)]; simp [hLl]) hN
theorem step_copy_bytes {w : World} {ops : Array Oper} {o : Oper} {a : Act} {K : Act → World → Prop} {Q : Exit → Act → World → Prop} {E : Prop} (hgd : o.guard = none) (d s : Operand)
    (ho : o.op = .call { callee := .builtin .copy, args := #[d, s], argTypes := #[34, 34] }) (base g off N : Nat) (L X : List Nat) (hown : w.ownsRow base 5 1 (.slice (some ⟨g, 0, none⟩) N N) N (L.map byw))
    (dp : Option Addr) (dLen dCap : Nat) (hd : a.eval d = .slice dp dLen dCap) (hdp : 0 < X.length → dp = some ⟨g, off, none⟩) (Ax : Option Addr) (m cx B : Nat) (hs : a.eval s = .slice Ax m cx) (hm : X.length = m) (hmd : m ≤ dLen) (hX : Sq byw w B Ax X) (hoff : off + m ≤ N)
    (h : ∀ w', w'.ownsRow base 5 1 (.slice (some ⟨g, 0, none⟩) N N) N ((splice L off X).map byw) → Below base w w' → K (a.put o.dst (goInt m)) w') :
    if Region.wanted o (yielded ops a.tmps) = true then Oper.wp Try.prog o a w K Q else E := by
  obtain ⟨hh, hbg, hN⟩ := own_full hown
  have hLl : L.length = N := by have := hown.1; simpa using this
  refine step_copy_splice hgd d s _ _ ho 5 Try.underlying34 size_b8 dp Ax dLen dCap m cx hd hs g off (L.map byw) 5 hh (X.map byw) (by rw [List.length_map, hm]; exact (Nat.min_eq_left hmd).symm) (fun hp => ?_) (by simp; omega) (by intro v hv; obtain ⟨x, _, rfl⟩ := List.mem_map.1 hv; rfl) base w (Below.refl _ _) hbg (fun w' hg' hb' => ?_)
  · rw [List.length_map] at hp
    obtain ⟨b2, o2, rfl, _, hc⟩ := hX hp
    refine ⟨hdp hp, _, rfl, fun j v hv => ?_⟩
    have hadd : (⟨b2, o2, none⟩ : Addr).add j = ⟨b2, o2 + j, none⟩ := by unfold Addr.add; split <;> simp_all
    rw [hadd]
    simp only [List.getElem?_map, Option.map_eq_some_iff] at hv
    obtain ⟨y, hy, rfl⟩ := hv
    exact hc j y hy
  · have hl2 : (X.map byw).length = m := by simp [hm]
    rw [hl2]
    refine h w' ?_ hb'
    rw [← splice_map]
    exact own_of_full hg'.out hbg (by rw [length_splice _ _ _ (by simp; omega)]; simp [hLl]) hN
end Go.Proofs.Ythigkmoilfdciaa
