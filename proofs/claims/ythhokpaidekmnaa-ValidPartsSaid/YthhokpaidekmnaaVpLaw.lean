/- Layer 15: the plain law of ValidParts: recipes with lines numbered anew, turned round, and with a part, a value, or all behind a line left out. No program in sight. -/
import Derived.Test.YthhokpaidekmnaaVdChk
namespace Go.Proofs.Ythhokpaidekmnaa
set_option linter.unusedVariables false
/-- a part without its place -/
structure Pb where
 slave : ByteArray
 line : Int
 sets : List St
def Pa.b (p : Pa) : Pb := ⟨p.slave, p.line, p.sets⟩
namespace Vd
def rightPb (p : Pb) : Bool := name p.slave && decide (p.sets.length ≤ 64) && p.sets.all rightSt
def rightB (nm : ByteArray) (l : List Pb) : Bool := name nm && decide (l.length ≤ 8) && l.all rightPb
theorem rightR_b (nm : ByteArray) (l : List Pa) : rightR nm l = rightB nm (l.map Pa.b) := by
 unfold rightR rightB
 rw [List.length_map, List.all_map]
 rfl
def checkB (t : List Dv) : List ByteArray → List Pb → Option (Nat × Int)
 | _, [] => none
 | K, p :: l =>
  match (firstAt Dv.name p.slave t).bind (t[·]?) with
  | none => some (150, p.line)
  | some d => if hasK K p.slave = true then some (150, p.line) else
   match checkS d.pts [] p.sets with
   | some f => some f
   | none => checkB t (p.slave :: K) l
theorem checkP_b (t : List Dv) : ∀ (K : List ByteArray) (l : List Pa), checkP t K l = checkB t K (l.map Pa.b)
 | K, [] => rfl
 | K, p :: l => by
  rw [List.map_cons]
  unfold checkP checkB
  rw [checkP_b t _ l]
  rfl
def chk (t : List Dv) (nm : ByteArray) (l : List Pb) : Nat × Int := if (rightTab t && rightB nm l) = true then (checkB t [] l).getD (0, 0) else (2, 0)
theorem check_b (t : List Dv) (nm : ByteArray) (l : List Pa) : check t nm l = chk t nm (l.map Pa.b) := by
 unfold check chk
 rw [rightR_b, checkP_b]
/-- a value that may be had of a device -/
def OkS (pts : List Pt) (s : St) : Prop := ∃ p, point pts s.point = some p ∧ (vword p s).2 = 0
theorem hasK_no (K : List ByteArray) (s : ByteArray) : hasK K s = false ↔ s ∉ K := by
 rw [← hasK_iff, Bool.not_eq_true]
theorem setE_zero (pts : List Pt) (K : List ByteArray) (s : St) : setE pts K s = 0 ↔ OkS pts s ∧ s.point ∉ K := by
 unfold setE OkS
 rw [← hasK_no]
 cases h : point pts s.point with
 | none => simp
 | some p => cases hk : hasK K s.point <;> simp
theorem checkS_none (pts : List Pt) : ∀ (l : List St) (K : List ByteArray), checkS pts K l = none ↔ (∀ s ∈ l, OkS pts s ∧ s.point ∉ K) ∧ (l.map St.point).Nodup
 | [], K => by simp [checkS]
 | s :: l, K => by
  unfold checkS
  by_cases h : setE pts K s = 0
  ·rw [if_pos h, checkS_none pts l, List.map_cons, List.nodup_cons]
   rw [setE_zero] at h
   constructor
   ·rintro ⟨h1, h2⟩
    refine ⟨fun x hx => ?_, fun hm => ?_, h2⟩
    ·rcases List.mem_cons.1 hx with rfl | hx
     ·exact h
     ·exact ⟨(h1 x hx).1, fun hk => (h1 x hx).2 (List.mem_cons_of_mem _ hk)⟩
    ·obtain ⟨x, hx, he⟩ := List.mem_map.1 hm
     exact (h1 x hx).2 (he ▸ List.mem_cons_self)
   ·rintro ⟨h1, h3, h2⟩
    refine ⟨fun x hx => ⟨(h1 x (List.mem_cons_of_mem _ hx)).1, fun hk => ?_⟩, h2⟩
    rcases List.mem_cons.1 hk with he | hk
    ·exact h3 (List.mem_map.2 ⟨x, hx, he⟩)
    ·exact (h1 x (List.mem_cons_of_mem _ hx)).2 hk
  ·rw [if_neg h]
   constructor
   ·intro h1; cases h1
   ·rintro ⟨h1, _⟩
    exact absurd ((setE_zero pts K s).2 (h1 s List.mem_cons_self)) h
theorem checkS_ne {pts : List Pt} : ∀ {l : List St} {K : List ByteArray} {f : Nat × Int}, checkS pts K l = some f → f.1 ≠ 0
 | [], K, f, h => by cases h
 | s :: l, K, f, h => by
  unfold checkS at h
  split at h
  ·exact checkS_ne h
  ·rename_i h0
   obtain rfl := Option.some.inj h
   exact h0
/-- a part that may be done -/
def OkP (t : List Dv) (p : Pb) : Prop := ∃ d, (firstAt Dv.name p.slave t).bind (t[·]?) = some d ∧ checkS d.pts [] p.sets = none
theorem checkB_none (t : List Dv) : ∀ (l : List Pb) (K : List ByteArray), checkB t K l = none ↔ (∀ p ∈ l, OkP t p ∧ p.slave ∉ K) ∧ (l.map Pb.slave).Nodup
 | [], K => by simp [checkB]
 | p :: l, K => by
  have key : checkB t K (p :: l) = none ↔ (OkP t p ∧ p.slave ∉ K) ∧ checkB t (p.slave :: K) l = none := by
   rw [← hasK_no]
   unfold OkP
   rw [checkB]
   cases h1 : (firstAt Dv.name p.slave t).bind (t[·]?) with
   | none => simp
   | some d =>
    cases h2 : hasK K p.slave with
    | true => simp
    | false =>
     cases h3 : checkS d.pts [] p.sets with
     | none => simp [h3]
     | some f => simp [h3]
  rw [key, checkB_none t l, List.map_cons, List.nodup_cons]
  constructor
  ·rintro ⟨h, h1, h2⟩
   refine ⟨fun x hx => ?_, fun hm => ?_, h2⟩
   ·rcases List.mem_cons.1 hx with rfl | hx
    ·exact h
    ·exact ⟨(h1 x hx).1, fun hk => (h1 x hx).2 (List.mem_cons_of_mem _ hk)⟩
   ·obtain ⟨x, hx, he⟩ := List.mem_map.1 hm
    exact (h1 x hx).2 (he ▸ List.mem_cons_self)
  ·rintro ⟨h1, h3, h2⟩
   refine ⟨h1 p List.mem_cons_self, fun x hx => ⟨(h1 x (List.mem_cons_of_mem _ hx)).1, fun hk => ?_⟩, h2⟩
   rcases List.mem_cons.1 hk with he | hk
   ·exact h3 (List.mem_map.2 ⟨x, hx, he⟩)
   ·exact (h1 x (List.mem_cons_of_mem _ hx)).2 hk
theorem checkB_ne {t : List Dv} : ∀ {l : List Pb} {K : List ByteArray} {f : Nat × Int}, checkB t K l = some f → f.1 ≠ 0
 | [], K, f, h => by cases h
 | p :: l, K, f, h => by
  unfold checkB at h
  split at h
  ·obtain rfl := Option.some.inj h
   exact (by decide : (150 : Nat) ≠ 0)
  ·split at h
   ·obtain rfl := Option.some.inj h
    exact (by decide : (150 : Nat) ≠ 0)
   ·split at h
    ·rename_i h0
     obtain rfl := Option.some.inj h
     exact checkS_ne h0
    ·exact checkB_ne h
theorem chk_ok (t : List Dv) (nm : ByteArray) (l : List Pb) : (chk t nm l).1 = 0 ↔ rightTab t = true ∧ rightB nm l = true ∧ checkB t [] l = none := by
 unfold chk
 by_cases h : (rightTab t && rightB nm l) = true
 ·rw [if_pos h]
  rw [Bool.and_eq_true] at h
  cases hc : checkB t [] l with
  | none => simp [h.1, h.2]
  | some f => simpa [h.1, h.2] using checkB_ne hc
 ·rw [if_neg h]
  rw [Bool.and_eq_true] at h
  constructor
  ·intro h1; cases h1
  ·rintro ⟨h1, h2, _⟩
   exact absurd ⟨h1, h2⟩ h
/-- less of a part -/
structure Le (q p : Pb) : Prop where
 slave : q.slave = p.slave
 len : q.sets.length ≤ p.sets.length
 nodup : (p.sets.map St.point).Nodup → (q.sets.map St.point).Nodup
 mem : ∀ s ∈ q.sets, s ∈ p.sets
theorem Le.right {q p : Pb} (h : Le q p) (hp : rightPb p = true) : rightPb q = true := by
 unfold rightPb at hp ⊢
 rw [Bool.and_eq_true, Bool.and_eq_true, List.all_eq_true, decide_eq_true_iff] at hp ⊢
 exact ⟨⟨h.slave ▸ hp.1.1, Nat.le_trans h.len hp.1.2⟩, fun s hs => hp.2 s (h.mem s hs)⟩
theorem Le.ok {t : List Dv} {q p : Pb} (h : Le q p) (hp : OkP t p) : OkP t q := by
 obtain ⟨d, h1, h2⟩ := hp
 rw [checkS_none] at h2
 exact ⟨d, h.slave ▸ h1, (checkS_none _ _ _).2 ⟨fun s hs => h2.1 s (h.mem s hs), h.nodup h2.2⟩⟩
theorem chk_le {t : List Dv} {nm : ByteArray} {l l2 : List Pb} (h : (chk t nm l).1 = 0) (hl : l2.length ≤ l.length) (hn : (l.map Pb.slave).Nodup → (l2.map Pb.slave).Nodup) (hm : ∀ q ∈ l2, ∃ p ∈ l, Le q p) : (chk t nm l2).1 = 0 := by
 rw [chk_ok] at h ⊢
 obtain ⟨h1, h2, h3⟩ := h
 unfold rightB at h2 ⊢
 rw [Bool.and_eq_true, Bool.and_eq_true, List.all_eq_true, decide_eq_true_iff] at h2
 rw [checkB_none] at h3 ⊢
 refine ⟨h1, ?_, fun q hq => ?_, hn h3.2⟩
 ·rw [Bool.and_eq_true, Bool.and_eq_true, List.all_eq_true, decide_eq_true_iff]
  refine ⟨⟨h2.1.1, Nat.le_trans hl h2.1.2⟩, fun q hq => ?_⟩
  obtain ⟨p, hp, hle⟩ := hm q hq
  exact hle.right (h2.2 p hp)
 ·obtain ⟨p, hp, hle⟩ := hm q hq
  exact ⟨hle.ok (h3.1 p hp).1, by simp⟩
theorem Le.refl (p : Pb) : Le p p := ⟨rfl, Nat.le_refl _, id, fun _ h => h⟩
/-- turned round -/
def turnB (p : Pb) : Pb := ⟨p.slave, 0, p.sets.reverse⟩
def backP (l : List Pb) : List Pb := (l.map turnB).reverse
theorem backP_cons (p : Pb) (l : List Pb) : backP (p :: l) = backP l ++ [turnB p] := by
 unfold backP
 rw [List.map_cons, List.reverse_cons]
theorem nodup_rev {α : Type} {l : List α} (h : l.Nodup) : l.reverse.Nodup := by
 unfold List.Nodup at h ⊢
 rw [List.pairwise_reverse]
 exact h.imp (fun h e => h e.symm)
theorem turnB_le (p : Pb) : Le (turnB p) p := ⟨rfl, by simp [turnB], fun h => by unfold turnB; dsimp only; rw [List.map_reverse]; exact nodup_rev h, fun s hs => by simpa [turnB] using hs⟩
theorem back_ok {t : List Dv} {nm : ByteArray} {l : List Pb} (h : (chk t nm l).1 = 0) : (chk t nm (backP l)).1 = 0 := by
 refine chk_le h (by simp [backP]) (fun hn => ?_) (fun q hq => ?_)
 ·unfold backP
  rw [List.map_reverse, List.map_map]
  exact nodup_rev hn
 ·unfold backP at hq
  rw [List.mem_reverse, List.mem_map] at hq
  obtain ⟨p, hp, rfl⟩ := hq
  exact ⟨p, hp, turnB_le p⟩
/-- without number k -/
def out {α : Type} (l : List α) (k : Nat) : List α := l.take k ++ l.drop (k + 1)
theorem out_sub {α : Type} (l : List α) (k : Nat) : (out l k).Sublist l := by
 unfold out
 rw [← List.eraseIdx_eq_take_drop_succ]
 exact List.eraseIdx_sublist _ _
theorem out_ok {t : List Dv} {nm : ByteArray} {l : List Pb} (h : (chk t nm l).1 = 0) (i : Nat) : (chk t nm (out l i)).1 = 0 :=
 chk_le h (out_sub l i).length_le (fun hn => hn.sublist ((out_sub l i).map _)) (fun q hq => ⟨q, (out_sub l i).subset hq, Le.refl q⟩)
theorem set_ok {t : List Dv} {nm : ByteArray} {l : List Pb} (h : (chk t nm l).1 = 0) {i : Nat} {p : Pb} (hp : l[i]? = some p) (k : Nat) : (chk t nm (l.set i ⟨p.slave, p.line, out p.sets k⟩)).1 = 0 := by
 refine chk_le h (by simp) (fun hn => ?_) (fun q hq => ?_)
 ·have he : (l.set i ⟨p.slave, p.line, out p.sets k⟩).map Pb.slave = l.map Pb.slave := by
   rw [List.map_set]
   apply List.ext_getElem?
   intro j
   rw [List.getElem?_set, List.getElem?_map]
   split
   ·rename_i hij
    subst hij
    rw [hp]
    obtain ⟨hlt, _⟩ := List.getElem?_eq_some_iff.1 hp
    simp [hlt]
   ·rfl
  rw [he]
  exact hn
 ·rcases List.mem_or_eq_of_mem_set hq with hq | rfl
  ·exact ⟨q, hq, Le.refl q⟩
  ·exact ⟨p, List.mem_of_getElem? hp, ⟨rfl, (out_sub _ _).length_le, fun hn => hn.sublist ((out_sub _ _).map _), fun s hs => (out_sub _ _).subset hs⟩⟩
/-- lines numbered anew -/
def lineS (s : St) (n : Nat) : St := ⟨s.point, s.value, s.unit, (n : Int)⟩
def renS : Nat → List St → List St
 | _, [] => []
 | n, s :: l => lineS s (n + 1) :: renS (n + 1) l
def renB (p : Pb) (n : Nat) : Pb := ⟨p.slave, ((n + 1 : Nat) : Int), renS (n + 1) p.sets⟩
def renP : Nat → List Pb → List Pb
 | _, [] => []
 | n, p :: l => renB p n :: renP (n + 1 + p.sets.length) l
def cnt : List Pb → Nat
 | [] => 0
 | p :: l => 1 + p.sets.length + cnt l
theorem renS_snoc (s : St) : ∀ (l : List St) (n : Nat), renS n (l ++ [s]) = renS n l ++ [lineS s (n + l.length + 1)]
 | [], n => rfl
 | a :: l, n => by rw [List.cons_append, renS, renS, renS_snoc s l, List.cons_append, List.length_cons, show n + 1 + l.length + 1 = n + (l.length + 1) + 1 by omega]
theorem cnt_le {m : Nat} : ∀ (l : List Pb), (∀ p ∈ l, p.sets.length ≤ m) → cnt l ≤ (m + 1) * l.length
 | [], _ => by simp [cnt]
 | a :: l, h => by
  have h1 := h a List.mem_cons_self
  have h2 := cnt_le l (fun p hp => h p (List.mem_cons_of_mem _ hp))
  rw [cnt, List.length_cons, Nat.mul_add]
  omega
theorem cnt_snoc (p : Pb) : ∀ (l : List Pb), cnt (l ++ [p]) = cnt l + 1 + p.sets.length
 | [] => by simp [cnt]
 | a :: l => by rw [List.cons_append, cnt, cnt_snoc p l, cnt]; omega
theorem renP_snoc (p : Pb) : ∀ (l : List Pb) (n : Nat), renP n (l ++ [p]) = renP n l ++ [renB p (n + cnt l)]
 | [], n => rfl
 | a :: l, n => by rw [List.cons_append, renP, renP, renP_snoc p l, List.cons_append, cnt, show n + 1 + a.sets.length + cnt l = n + (1 + a.sets.length + cnt l) by omega]
theorem renS_length : ∀ (l : List St) (n : Nat), (renS n l).length = l.length
 | [], n => rfl
 | a :: l, n => by rw [renS, List.length_cons, renS_length l, List.length_cons]
theorem renP_length : ∀ (l : List Pb) (n : Nat), (renP n l).length = l.length
 | [], n => rfl
 | a :: l, n => by rw [renP, List.length_cons, renP_length l, List.length_cons]
theorem renP_sets {m : Nat} : ∀ {l : List Pb} {n : Nat}, (∀ p ∈ l, p.sets.length ≤ m) → ∀ q ∈ renP n l, q.sets.length ≤ m
 | [], _, _, q, hq => by cases hq
 | a :: l, n, h, q, hq => by
  rw [renP] at hq
  rcases List.mem_cons.1 hq with rfl | hq
  ·unfold renB
   dsimp only
   rw [renS_length]
   exact h a List.mem_cons_self
  ·exact renP_sets (fun p hp => h p (List.mem_cons_of_mem _ hp)) q hq
theorem renS_right : ∀ (l : List St) (n : Nat), (renS n l).all rightSt = l.all rightSt
 | [], n => rfl
 | a :: l, n => by rw [renS, List.all_cons, renS_right l, List.all_cons]; rfl
theorem renB_right (p : Pb) (n : Nat) : rightPb (renB p n) = rightPb p := by
 unfold rightPb renB
 dsimp only
 rw [renS_length, renS_right]
theorem renP_right : ∀ (l : List Pb) (n : Nat), (renP n l).all rightPb = l.all rightPb
 | [], n => rfl
 | a :: l, n => by rw [renP, List.all_cons, renP_right l, renB_right, List.all_cons]
theorem ren_right (nm : ByteArray) (l : List Pb) (n : Nat) : rightB nm (renP n l) = rightB nm l := by
 unfold rightB
 rw [renP_length, renP_right]
theorem renS_line : ∀ (l : List St) (n : Nat) (s : St), s ∈ renS n l → (n : Int) < s.line ∧ s.line ≤ ((n + l.length : Nat) : Int)
 | [], n, s, h => by cases h
 | a :: l, n, s, h => by
  rw [renS] at h
  rw [List.length_cons]
  rcases List.mem_cons.1 h with rfl | h
  ·unfold lineS; dsimp only; omega
  ·have := renS_line l (n + 1) s h
   omega
theorem renS_fit : ∀ {l : List St} {n : Nat}, n + l.length ≤ 1000000 → (∀ x ∈ l, x.Fit) → ∀ s ∈ renS n l, s.Fit
 | [], _, _, _, s, hs => by cases hs
 | a :: l, n, hn, h, s, hs => by
  rw [renS] at hs
  rw [List.length_cons] at hn
  rcases List.mem_cons.1 hs with rfl | hs
  ·exact ⟨(h a List.mem_cons_self).1, by unfold lineS; dsimp only; omega, by unfold lineS; dsimp only; omega⟩
  ·exact renS_fit (by omega) (fun x hx => h x (List.mem_cons_of_mem _ hx)) s hs
/-- all from a line on left out -/
def lessS (ln : Int) (l : List St) : List St := l.filter (fun s => decide (s.line < ln))
def lessB (ln : Int) (p : Pb) : Pb := ⟨p.slave, p.line, lessS ln p.sets⟩
def lessP (ln : Int) : List Pb → List Pb
 | [] => []
 | p :: l => if p.line < ln then lessB ln p :: lessP ln l else []
theorem lessS_none {ln : Int} {n : Nat} (h : ln ≤ (n : Int) + 1) (l : List St) : lessS ln (renS n l) = [] := by
 unfold lessS
 rw [List.filter_eq_nil_iff]
 intro s hs
 have := (renS_line l n s hs).1
 simp
 omega
theorem lessS_all {ln : Int} {n : Nat} {l : List St} (h : ((n + l.length : Nat) : Int) < ln) : lessS ln (renS n l) = renS n l := by
 unfold lessS
 rw [List.filter_eq_self]
 intro s hs
 have := (renS_line l n s hs).2
 simp
 omega
theorem lessP_none {ln : Int} {n : Nat} (h : ln ≤ (n : Int) + 1) : ∀ (l : List Pb), lessP ln (renP n l) = []
 | [] => rfl
 | p :: l => by
  rw [renP, lessP, if_neg]
  unfold renB
  dsimp only
  omega
theorem faultS {pts : List Pt} : ∀ {l : List St} {K : List ByteArray} {n e : Nat} {ln : Int}, checkS pts K (renS n l) = some (e, ln) → (n : Int) < ln ∧ ln ≤ ((n + l.length : Nat) : Int) ∧ checkS pts K (lessS ln (renS n l)) = none
 | [], K, n, e, ln, h => by cases h
 | s :: l, K, n, e, ln, h => by
  rw [List.length_cons]
  by_cases h0 : setE pts K (lineS s (n + 1)) = 0
  ·have h1 : checkS pts ((lineS s (n + 1)).point :: K) (renS (n + 1) l) = some (e, ln) := by
    rw [renS, checkS, if_pos h0] at h
    exact h
   obtain ⟨a1, a2, a3⟩ := faultS h1
   refine ⟨by omega, by omega, ?_⟩
   have hl : lessS ln (renS n (s :: l)) = lineS s (n + 1) :: lessS ln (renS (n + 1) l) := by
    rw [renS]
    unfold lessS
    rw [List.filter_cons, if_pos]
    unfold lineS
    dsimp only
    rw [decide_eq_true_iff]
    omega
   rw [hl, checkS, if_pos h0]
   exact a3
  ·have h1 : (setE pts K (lineS s (n + 1)), (lineS s (n + 1)).line) = (e, ln) := by
    rw [renS, checkS, if_neg h0] at h
    exact Option.some.inj h
   have h2 : ((n + 1 : Nat) : Int) = ln := (Prod.mk.inj h1).2
   refine ⟨by omega, by omega, ?_⟩
   rw [lessS_none (n := n) (by omega)]
   rfl
theorem faultP {t : List Dv} : ∀ {l : List Pb} {K : List ByteArray} {n e : Nat} {ln : Int}, checkB t K (renP n l) = some (e, ln) → (n : Int) < ln ∧ ln ≤ ((n + cnt l : Nat) : Int) ∧ checkB t K (lessP ln (renP n l)) = none
 | [], K, n, e, ln, h => by cases h
 | p :: l, K, n, e, ln, h => by
  have hc : cnt (p :: l) = 1 + p.sets.length + cnt l := rfl
  rw [hc]
  rw [renP, checkB] at h
  rw [renP]
  have hbl : (renB p n).line = ((n + 1 : Nat) : Int) := rfl
  have hbs : (renB p n).sets = renS (n + 1) p.sets := rfl
  have first : ((n + 1 : Nat) : Int) = ln → (n : Int) < ln ∧ ln ≤ ((n + (1 + p.sets.length + cnt l) : Nat) : Int) ∧ checkB t K (lessP ln (renB p n :: renP (n + 1 + p.sets.length) l)) = none := by
   intro h2
   refine ⟨by omega, by omega, ?_⟩
   rw [lessP, if_neg (by rw [hbl]; omega)]
   rfl
  cases h1 : (firstAt Dv.name (renB p n).slave t).bind (t[·]?) with
  | none =>
   rw [h1] at h
   exact first (Prod.mk.inj (Option.some.inj h)).2
  | some d =>
   rw [h1] at h
   dsimp only at h
   cases h2 : hasK K (renB p n).slave with
   | true =>
    rw [h2, if_pos rfl] at h
    exact first (Prod.mk.inj (Option.some.inj h)).2
   | false =>
    rw [h2, if_neg Bool.false_ne_true] at h
    cases h3 : checkS d.pts [] (renB p n).sets with
    | some f =>
     rw [h3] at h
     obtain rfl := Option.some.inj h
     rw [hbs] at h3
     obtain ⟨a1, a2, a3⟩ := faultS h3
     refine ⟨by omega, by omega, ?_⟩
     rw [lessP, if_pos (by rw [hbl]; omega), lessP_none (n := n + 1 + p.sets.length) (by omega), checkB]
     have e1 : (lessB ln (renB p n)).slave = (renB p n).slave := rfl
     have e2 : (lessB ln (renB p n)).sets = lessS ln (renS (n + 1) p.sets) := rfl
     rw [e1, h1, e2]
     dsimp only
     rw [h2, if_neg Bool.false_ne_true, a3]
     rfl
    | none =>
     rw [h3] at h
     dsimp only at h
     obtain ⟨a1, a2, a3⟩ := faultP h
     refine ⟨by omega, by omega, ?_⟩
     have e1 : (lessB ln (renB p n)).slave = (renB p n).slave := rfl
     have e2 : (lessB ln (renB p n)).sets = (renB p n).sets := lessS_all (by omega)
     rw [lessP, if_pos (by rw [hbl]; omega), checkB, e1, h1, e2]
     dsimp only
     rw [h2, if_neg Bool.false_ne_true, h3]
     exact a3
theorem lessB_right {ln : Int} {p : Pb} (h : rightPb p = true) : rightPb (lessB ln p) = true := by
 unfold rightPb at h ⊢
 rw [Bool.and_eq_true, Bool.and_eq_true, List.all_eq_true, decide_eq_true_iff] at h ⊢
 refine ⟨⟨h.1.1, Nat.le_trans (List.length_filter_le _ _) h.1.2⟩, fun s hs => h.2 s ((List.mem_filter.1 hs).1)⟩
theorem lessP_right {ln : Int} : ∀ {l : List Pb}, l.all rightPb = true → (lessP ln l).all rightPb = true
 | [], _ => rfl
 | p :: l, h => by
  rw [List.all_cons, Bool.and_eq_true] at h
  rw [lessP]
  split
  ·rw [List.all_cons, lessB_right h.1, lessP_right h.2]
   rfl
  ·rfl
theorem lessP_len {ln : Int} : ∀ (l : List Pb), (lessP ln l).length ≤ l.length
 | [] => Nat.le_refl _
 | p :: l => by
  rw [lessP]
  split
  ·rw [List.length_cons, List.length_cons]
   have := lessP_len (ln := ln) l
   omega
  ·simp
theorem less_right {nm : ByteArray} {ln : Int} {l : List Pb} (h : rightB nm l = true) : rightB nm (lessP ln l) = true := by
 unfold rightB at h ⊢
 rw [Bool.and_eq_true, Bool.and_eq_true, decide_eq_true_iff] at h ⊢
 exact ⟨⟨h.1.1, Nat.le_trans (lessP_len l) h.1.2⟩, lessP_right h.2⟩
/-- the fault of a recipe whose lines are numbered: what comes ahead of it may be done -/
theorem fault_ren {t : List Dv} {nm : ByteArray} {l : List Pb} {e : Nat} {ln : Int} (ht : rightTab t = true) (hr : rightB nm l = true) (h : chk t nm (renP 0 l) = (e, ln)) (he : e ≠ 0) :
  1 ≤ ln ∧ ln ≤ (cnt l : Int) ∧ (chk t nm (lessP ln (renP 0 l))).1 = 0 := by
 have hr2 : rightB nm (renP 0 l) = true := by rw [ren_right]; exact hr
 unfold chk at h
 rw [ht, hr2, Bool.and_self, if_pos rfl] at h
 cases hc : checkB t [] (renP 0 l) with
 | none =>
  rw [hc] at h
  exact absurd (Prod.mk.inj h).1.symm he
 | some f =>
  rw [hc] at h
  obtain rfl : f = (e, ln) := h
  obtain ⟨a1, a2, a3⟩ := faultP hc
  exact ⟨by omega, by omega, (chk_ok _ _ _).2 ⟨ht, less_right hr2, a3⟩⟩
/-- where the loop ends -/
theorem lessP_take {ln : Int} : ∀ {l : List Pb} {j : Nat}, (∀ p ∈ l.take j, p.line < ln) → (∀ p, l[j]? = some p → ¬ p.line < ln) → lessP ln l = (l.take j).map (lessB ln)
 | [], j, _, _ => by simp [lessP]
 | p :: l, 0, _, h => by
  rw [lessP, if_neg (h p rfl)]
  rfl
 | p :: l, j + 1, h1, h2 => by
  rw [List.take_succ_cons] at h1 ⊢
  rw [lessP, if_pos (h1 p List.mem_cons_self), List.map_cons, lessP_take (fun q hq => h1 q (List.mem_cons_of_mem _ hq)) (fun q hq => h2 q (by simpa using hq))]
end Vd
end Go.Proofs.Ythhokpaidekmnaa
