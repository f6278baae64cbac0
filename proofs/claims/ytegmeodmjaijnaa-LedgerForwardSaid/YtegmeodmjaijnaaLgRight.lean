/- Layer 23: Right and Shut, the program's and the document's. -/
import Derived.Test.YtegmeodmjaijnaaLgFind
import Derived.Test.YtegmeodmjaijnaaRcK
import Derived.Test.YtegmeodmjaijnaaAppRN
namespace Go.Proofs.Ytegmeodmjaijnaa
open Go.RowKit
set_option linter.unusedVariables false
set_option linter.unusedSimpArgs false
attribute [local go_sem] Later.cell Later.frozen setCell_twice
namespace Jp
def okOne (last : Nat) (j : Jp) : Bool := decide (last < j.tx ∧ 0 < j.who ∧ j.text.length ≤ 8192 ∧ 1 ≤ j.st ∧ j.st ≤ 5)
def rightFrom (last : Nat) : List Jp → Bool
  | [] => true
  | j :: r => okOne last j && rightFrom j.tx r
def right (l : List Jp) : Bool := rightFrom 0 l
theorem rightFrom_at {last k : Nat} {l : List Jp} {x : Jp} (h : l[k]? = some x) : rightFrom last (l.drop k) = (okOne last x && rightFrom x.tx (l.drop (k + 1))) := by
  obtain ⟨hk, hx⟩ := List.getElem?_eq_some_iff.1 h
  rw [List.drop_eq_getElem_cons hk, hx]
  rfl
theorem rightFrom_sorted {last : Nat} {l : List Jp} (h : rightFrom last l = true) : Sorted l ∧ ∀ j ∈ l, last < j.tx ∧ 0 < j.who ∧ j.text.length ≤ 8192 ∧ 1 ≤ j.st ∧ j.st ≤ 5 := by
  induction l generalizing last with
  | nil => exact ⟨List.Pairwise.nil, by simp⟩
  | cons x l ih =>
    rw [rightFrom, Bool.and_eq_true] at h
    have h1 := of_decide_eq_true h.1
    obtain ⟨h2, h3⟩ := ih h.2
    refine ⟨List.pairwise_cons.2 ⟨fun j hj => (h3 j hj).1, h2⟩, fun j hj => ?_⟩
    rcases List.mem_cons.1 hj with rfl | hj
    · exact h1
    · have := h3 j hj
      exact ⟨by omega, this.2⟩
def shutOne (j : Jp) : Nr := ⟨3, j.tx, 0, false, []⟩
def shut (l : List Jp) : List Nr := (l.filter fun j => decide (j.st = 1)).map shutOne
theorem shut_snoc {l : List Jp} {k : Nat} {x : Jp} (h : l[k]? = some x) : shut (l.take (k + 1)) = shut (l.take k) ++ (if x.st = 1 then [shutOne x] else []) := by
  unfold shut
  rw [List.take_add_one, h, Option.toList, List.filter_append, List.map_append]
  by_cases hx : x.st = 1 <;> simp [hx, List.filter_cons]
theorem shut_length (l : List Jp) : (shut l).length ≤ l.length := by
  unfold shut
  rw [List.length_map]
  exact List.length_filter_le _ _
end Jp
/-- a record without a text, in memory -/
abbrev rc0 (x : Nr) : Rc := ⟨x, none, 0⟩
set_option maxRecDepth 100000 in
set_option maxHeartbeats 1000000 in
theorem jright_any (A : Option Addr) (l : List Jb) (c n : Nat) (w : World) (hn : l.length = n) (h : Jbs w w.heap.size A l) (hn63 : n ≤ 1000000) :
    Calls Try.prog 15 #[.slice A n c] w fun e w' => e = .returned (.bool (Jp.right (jps l))) ∧ Below w.heap.size w w' := by
  have HN := Lib.hid hn
  have HH := Lib.hid h
  obtain ⟨rr, hrr⟩ : ∃ rr, Jp.right (jps l) = rr := ⟨_, rfl⟩
  have HRR := Lib.hid hrr
  rw [hrr]
  clear hn h hrr
  go_enter Try.func15, Try.ntmps15
  go_wp2
  go_loopw [3, 8] (fun v i wr => ∃ (k last : Nat), k ≤ n ∧ i = .int .i64 k ∧ v = .int .u32 (last : Int) ∧ Hid (Jp.right (jps l) = Jp.rightFrom last ((jps l).drop k)) ∧ Below w.heap.size w wr) (fun _ i _ => n - (intOf i).toNat)
  case atStart => exact ⟨0, 0, by omega, rfl, rfl, Lib.hid rfl, Below.refl _ _⟩
  case round =>
    obtain ⟨k, last, hk, rfl, rfl, hh, hbe⟩ := hrel
    have HL := Lib.hid hh.out
    have BE := Lib.hid hbe
    clear hh
    by_cases hlt : k < n
    · obtain ⟨g1, o1, x, rfl, hg1, hx, hxo, hx0, hx1, hx2, hx3⟩ := (HH.out.to hbe).at_ (k := k) (by rw [HN.out]; exact hlt)
      have hltI : (k : Int) < (n : Int) := by omega
      have h0I : (0 : Int) ≤ (k : Int) := by omega
      have HX : Hid ((jps l)[k]? = some x.p) := Lib.hid (by rw [jps, List.getElem?_map, hx]; rfl)
      obtain ⟨⟨tx, who, text, st⟩, XA, xc⟩ := x
      dsimp only at hx0 hx1 hx2 hx3 HX
      obtain ⟨m, hm⟩ : ∃ m, text.length = m := ⟨_, rfl⟩
      have HM := Lib.hid hm
      rw [hm] at hx2
      have hgr : g1 < wr.heap.size := hg1
      clear hx hxo hm hbe
      by_cases h1 : tx ≤ last
      · have h1I : (tx : Int) ≤ (last : Int) := by omega
        obtain rfl : rr = false := by rw [← HRR.out, HL.out, Jp.rightFrom_at HX.out, show Jp.okOne last ⟨tx, who, text, st⟩ = false from decide_eq_false (by have := HM.out; dsimp only; omega)]; rfl
        go_wp2
        go_ret
        exact ⟨rfl, bel_alloc BE.out _⟩
      by_cases h2 : who = 0
      · have h2I : ((who : Int) == 0) = true := by subst h2; rfl
        obtain rfl : rr = false := by rw [← HRR.out, HL.out, Jp.rightFrom_at HX.out, show Jp.okOne last ⟨tx, who, text, st⟩ = false from decide_eq_false (by have := HM.out; dsimp only; omega)]; rfl
        go_wp2
        go_ret
        exact ⟨rfl, bel_alloc BE.out _⟩
      have h2I : ((who : Int) == 0) = false := beq_eq_false_iff_ne.2 (by omega)
      by_cases h3 : 8192 < m
      · have h3I : (8192 : Int) < (m : Int) := by omega
        obtain rfl : rr = false := by rw [← HRR.out, HL.out, Jp.rightFrom_at HX.out, show Jp.okOne last ⟨tx, who, text, st⟩ = false from decide_eq_false (by have := HM.out; dsimp only; omega)]; rfl
        go_wp2
        go_ret
        exact ⟨rfl, bel_alloc BE.out _⟩
      by_cases h4 : st < 1
      · have h4I : (st : Int) < 1 := by omega
        obtain rfl : rr = false := by rw [← HRR.out, HL.out, Jp.rightFrom_at HX.out, show Jp.okOne last ⟨tx, who, text, st⟩ = false from decide_eq_false (by have := HM.out; dsimp only; omega)]; rfl
        go_wp2
        go_ret
        exact ⟨rfl, bel_alloc BE.out _⟩
      by_cases h5 : 5 < st
      · have h5I : (5 : Int) < (st : Int) := by omega
        obtain rfl : rr = false := by rw [← HRR.out, HL.out, Jp.rightFrom_at HX.out, show Jp.okOne last ⟨tx, who, text, st⟩ = false from decide_eq_false (by have := HM.out; dsimp only; omega)]; rfl
        go_wp2
        go_ret
        exact ⟨rfl, bel_alloc BE.out _⟩
      have h1I : ¬ (tx : Int) ≤ (last : Int) := by omega
      have h3I : ¬ (8192 : Int) < (m : Int) := by omega
      have h4I : ¬ (st : Int) < 1 := by omega
      have h5I : ¬ (5 : Int) < (st : Int) := by omega
      have HN2 : Hid (Jp.right (jps l) = Jp.rightFrom tx ((jps l).drop (k + 1))) := Lib.hid (by rw [HL.out, Jp.rightFrom_at HX.out, show Jp.okOne last ⟨tx, who, text, st⟩ = true from decide_eq_true (by have := HM.out; dsimp only; omega)]; rfl)
      go_wp2
      go_roundw
      case rel => exact ⟨k + 1, tx, by omega, by go_num, rfl, HN2, bel_alloc BE.out _⟩
      case measure => simp [intOf]; omega
    · obtain rfl : k = n := by omega
      obtain rfl : rr = true := by
        rw [← HRR.out, HL.out, List.drop_eq_nil_of_le (by rw [jps, List.length_map, HN.out]; exact Nat.le_refl _)]
        rfl
      go_wp2
      go_ret
      exact ⟨rfl, BE.out⟩
set_option maxRecDepth 100000 in
set_option maxHeartbeats 1000000 in
theorem rjright_any (A : Option Addr) (l : List Jb) (c n : Nat) (w : World) (hn : l.length = n) (h : Jbs w w.heap.size A l) (hn63 : n ≤ 1000000) :
    Calls Try.prog 22 #[.slice A n c] w fun e w' => e = .returned (.bool (Jp.right (jps l))) ∧ Below w.heap.size w w' := by
  have HN := Lib.hid hn
  have HH := Lib.hid h
  obtain ⟨rr, hrr⟩ : ∃ rr, Jp.right (jps l) = rr := ⟨_, rfl⟩
  have HRR := Lib.hid hrr
  rw [hrr]
  clear hn h hrr
  go_enter Try.func22, Try.ntmps22
  go_wp2
  go_loopw [3, 4] (fun v i wr => ∃ (k last : Nat), k ≤ n ∧ i = .int .i64 k ∧ v = .int .u32 (last : Int) ∧ Hid (Jp.right (jps l) = Jp.rightFrom last ((jps l).drop k)) ∧ Below w.heap.size w wr) (fun _ i _ => n - (intOf i).toNat)
  case atStart => exact ⟨0, 0, by omega, rfl, rfl, Lib.hid rfl, Below.refl _ _⟩
  case round =>
    obtain ⟨k, last, hk, rfl, rfl, hh, hbe⟩ := hrel
    have HL := Lib.hid hh.out
    have BE := Lib.hid hbe
    clear hh
    by_cases hlt : k < n
    · obtain ⟨g1, o1, x, rfl, hg1, hx, hxo, hx0, hx1, hx2, hx3⟩ := (HH.out.to hbe).at_ (k := k) (by rw [HN.out]; exact hlt)
      have hltI : (k : Int) < (n : Int) := by omega
      have h0I : (0 : Int) ≤ (k : Int) := by omega
      have HX : Hid ((jps l)[k]? = some x.p) := Lib.hid (by rw [jps, List.getElem?_map, hx]; rfl)
      obtain ⟨⟨tx, who, text, st⟩, XA, xc⟩ := x
      dsimp only at hx0 hx1 hx2 hx3 HX
      obtain ⟨m, hm⟩ : ∃ m, text.length = m := ⟨_, rfl⟩
      have HM := Lib.hid hm
      rw [hm] at hx2
      have hgr : g1 < wr.heap.size := hg1
      clear hx hxo hm hbe
      by_cases h1 : tx ≤ last
      · have h1I : (tx : Int) ≤ (last : Int) := by omega
        obtain rfl : rr = false := by rw [← HRR.out, HL.out, Jp.rightFrom_at HX.out, show Jp.okOne last ⟨tx, who, text, st⟩ = false from decide_eq_false (by have := HM.out; dsimp only; omega)]; rfl
        go_wp2
        go_ret
        exact ⟨rfl, bel_alloc BE.out _⟩
      by_cases h2 : who = 0
      · have h2I : ((who : Int) == 0) = true := by subst h2; rfl
        obtain rfl : rr = false := by rw [← HRR.out, HL.out, Jp.rightFrom_at HX.out, show Jp.okOne last ⟨tx, who, text, st⟩ = false from decide_eq_false (by have := HM.out; dsimp only; omega)]; rfl
        go_wp2
        go_ret
        exact ⟨rfl, bel_alloc BE.out _⟩
      have h2I : ((who : Int) == 0) = false := beq_eq_false_iff_ne.2 (by omega)
      by_cases h3 : 8192 < m
      · have h3I : (8192 : Int) < (m : Int) := by omega
        obtain rfl : rr = false := by rw [← HRR.out, HL.out, Jp.rightFrom_at HX.out, show Jp.okOne last ⟨tx, who, text, st⟩ = false from decide_eq_false (by have := HM.out; dsimp only; omega)]; rfl
        go_wp2
        go_ret
        exact ⟨rfl, bel_alloc BE.out _⟩
      by_cases h4 : st < 1
      · have h4I : (st : Int) < 1 := by omega
        obtain rfl : rr = false := by rw [← HRR.out, HL.out, Jp.rightFrom_at HX.out, show Jp.okOne last ⟨tx, who, text, st⟩ = false from decide_eq_false (by have := HM.out; dsimp only; omega)]; rfl
        go_wp2
        go_ret
        exact ⟨rfl, bel_alloc BE.out _⟩
      by_cases h5 : 5 < st
      · have h5I : (5 : Int) < (st : Int) := by omega
        obtain rfl : rr = false := by rw [← HRR.out, HL.out, Jp.rightFrom_at HX.out, show Jp.okOne last ⟨tx, who, text, st⟩ = false from decide_eq_false (by have := HM.out; dsimp only; omega)]; rfl
        go_wp2
        go_ret
        exact ⟨rfl, bel_alloc BE.out _⟩
      have h1I : ¬ (tx : Int) ≤ (last : Int) := by omega
      have h3I : ¬ (8192 : Int) < (m : Int) := by omega
      have h4I : ¬ (st : Int) < 1 := by omega
      have h5I : ¬ (5 : Int) < (st : Int) := by omega
      have HN2 : Hid (Jp.right (jps l) = Jp.rightFrom tx ((jps l).drop (k + 1))) := Lib.hid (by rw [HL.out, Jp.rightFrom_at HX.out, show Jp.okOne last ⟨tx, who, text, st⟩ = true from decide_eq_true (by have := HM.out; dsimp only; omega)]; rfl)
      go_wp2
      go_roundw
      case rel => exact ⟨k + 1, tx, by omega, by go_num, rfl, HN2, bel_alloc BE.out _⟩
      case measure => simp [intOf]; omega
    · obtain rfl : k = n := by omega
      obtain rfl : rr = true := by
        rw [← HRR.out, HL.out, List.drop_eq_nil_of_le (by rw [jps, List.length_map, HN.out]; exact Nat.le_refl _)]
        rfl
      go_wp2
      go_ret
      exact ⟨rfl, BE.out⟩
/-- what Shut hands back: an own row of records without texts -/
def ShutP (l : List Jp) (w : World) (e : Ending) (w' : World) : Prop :=
  ∃ A c, e = .returned (.slice A (Jp.shut l).length c) ∧ w'.ownsRow w.heap.size 31 5 (.slice A (Jp.shut l).length c) (Jp.shut l).length (((Jp.shut l).map rc0).flatMap recK.f) ∧ Below w.heap.size w w'
set_option maxRecDepth 100000 in
set_option maxHeartbeats 1000000 in
theorem jshut_any (A : Option Addr) (l : List Jb) (c n : Nat) (w : World) (hn : l.length = n) (h : Jbs w w.heap.size A l) (hn63 : n ≤ 100000) :
    Calls Try.prog 12 #[.slice A n c] w (ShutP (jps l) w) := by
  obtain ⟨iR, hifR, hr0, hr1, hr2⟩ := info_parts info_record
  have HN := Lib.hid hn
  have HH := Lib.hid h
  clear hn h
  go_enter Try.func12, Try.ntmps12
  go_wp2
  go_loopw [3, 8] (fun v i wr => ∃ (k : Nat) (A' : Option Addr) (n' c' : Nat) (rl : List Nr), k ≤ n ∧ i = .int .i64 k ∧ v = .slice A' n' c' ∧ Hid (rl = Jp.shut ((jps l).take k) ∧ wr.ownsRow w.heap.size 31 5 (.slice A' n' c') n' ((rl.map rc0).flatMap recK.f) ∧ Below w.heap.size w wr ∧ rl.length = n')) (fun _ i _ => n - (intOf i).toNat)
  case atStart => exact ⟨0, none, 0, 0, [], by omega, rfl, rfl, Lib.hid ⟨rfl, by simpa using World.ownsRow_nil w w.heap.size 31 5, Below.refl _ _, rfl⟩⟩
  case round =>
    rename World => wr
    obtain ⟨k, A', n', c', rl, hk, rfl, rfl, hh⟩ := hrel
    have RL := Lib.hid hh.out.1
    have OW := Lib.hid hh.out.2.1
    have BE := Lib.hid hh.out.2.2.1
    have HNL := Lib.hid hh.out.2.2.2
    clear hh
    by_cases hlt : k < n
    · obtain ⟨g1, o1, x, rfl, hg1, hx, hxo, hx0, hx1, hx2, hx3⟩ := (HH.out.to BE.out).at_ (k := k) (by rw [HN.out]; exact hlt)
      have hltI : (k : Int) < (n : Int) := by omega
      have h0I : (0 : Int) ≤ (k : Int) := by omega
      have HX : Hid ((jps l)[k]? = some x.p) := Lib.hid (by rw [jps, List.getElem?_map, hx]; rfl)
      have hgr : g1 < wr.heap.size := hg1
      have HSN := Lib.hid (Jp.shut_snoc HX.out)
      have hws : w.heap.size ≤ wr.heap.size := BE.out.size
      have hnn : n' ≤ k := by have h := Jp.shut_length ((jps l).take k); rw [← RL.out, ← HNL.out] at *; simp only [List.length_take] at h; omega
      obtain ⟨⟨tx, who, text, st⟩, XA, xc⟩ := x
      dsimp only at hx0 hx1 hx2 hx3 HSN
      clear hx hxo HX
      by_cases h1 : st = 1
      · have h1I : ((st : Int) == 1) = true := by subst h1; rfl
        have HS1 : Hid (rl ++ [Jp.shutOne ⟨tx, who, text, st⟩] = Jp.shut ((jps l).take (k + 1))) := Lib.hid (by rw [HSN.out, if_pos h1, RL.out])
        clear h1
        go_wp2_with (at_builtin; (refine wpList_append_rn (f := recK.f) (s := 5) _ rfl (.tmp 15) (.tmp 19) 22 rfl (fun _ => rfl) (by decide) recK_fine.one w.heap.size 31 iR _ _ Try.underlying22 hifR hr0 hr1 hr2 (by decide) rfl A' c' n' (rl.map rc0) rfl (by rw [List.length_map]; exact HNL.out) (own_below OW.out (bel_alloc (bel_alloc (Below.refl _ _) _) _)) (wr.heap.size + 2) _ [rc0 (Jp.shutOne ⟨tx, who, text, st⟩)] 1 1 rfl rfl (Recs.lits (f := recK.f) (s := 5) (fun _ => rfl) (by decide) _ _ _ _ _ _ rfl (by simp) (by simp)) (by simp) (n' + 1) rfl (by omega) (by simp; omega) ?_); intro A4 c4 w4 o4 g4 b4; have O4 := Lib.hid o4; have BE4 : Hid (Below w.heap.size w w4) := Lib.hid ((bel_alloc (bel_alloc BE.out _) _).trans b4); clear o4 g4 b4)
        clear h1I
        go_wp2
        go_roundw
        case rel => exact ⟨k + 1, A4, n' + 1, c4, _, by omega, by go_num, rfl, Lib.hid ⟨HS1.out, by rw [List.map_append]; exact O4.out, BE4.out, by rw [List.length_append, HNL.out]; rfl⟩⟩
        case measure => simp [intOf]; omega
      · have h1I : ((st : Int) == 1) = false := beq_eq_false_iff_ne.2 (by omega)
        have HS1 : Hid (rl = Jp.shut ((jps l).take (k + 1))) := Lib.hid (by rw [HSN.out, if_neg h1, List.append_nil, RL.out])
        clear h1
        go_wp2
        go_roundw
        case rel => exact ⟨k + 1, A', n', c', rl, by omega, by go_num, rfl, Lib.hid ⟨HS1.out, own_below OW.out (bel_alloc (Below.refl _ _) _), bel_alloc BE.out _, HNL.out⟩⟩
        case measure => simp [intOf]; omega
    · obtain rfl : k = n := by omega
      have HF : Hid (Jp.shut (jps l) = rl) := Lib.hid (by rw [RL.out, List.take_of_length_le (by rw [jps, List.length_map, HN.out]; exact Nat.le_refl _)])
      go_wp2
      go_ret
      refine ⟨A', c', ?_, ?_, BE.out⟩
      · rw [HF.out, HNL.out]; rfl
      · rw [HF.out, HNL.out]; exact OW.out
set_option maxRecDepth 100000 in
set_option maxHeartbeats 1000000 in
theorem rjshut_any (A : Option Addr) (l : List Jb) (c n : Nat) (w : World) (hn : l.length = n) (h : Jbs w w.heap.size A l) (hn63 : n ≤ 100000) :
    Calls Try.prog 27 #[.slice A n c] w (ShutP (jps l) w) := by
  obtain ⟨iR, hifR, hr0, hr1, hr2⟩ := info_parts info_record
  have HN := Lib.hid hn
  have HH := Lib.hid h
  clear hn h
  go_enter Try.func27, Try.ntmps27
  go_wp2
  go_loopw [3, 4] (fun v i wr => ∃ (k : Nat) (A' : Option Addr) (n' c' : Nat) (rl : List Nr), k ≤ n ∧ i = .int .i64 k ∧ v = .slice A' n' c' ∧ Hid (rl = Jp.shut ((jps l).take k) ∧ wr.ownsRow w.heap.size 31 5 (.slice A' n' c') n' ((rl.map rc0).flatMap recK.f) ∧ Below w.heap.size w wr ∧ rl.length = n')) (fun _ i _ => n - (intOf i).toNat)
  case atStart => exact ⟨0, none, 0, 0, [], by omega, rfl, rfl, Lib.hid ⟨rfl, by simpa using World.ownsRow_nil w w.heap.size 31 5, Below.refl _ _, rfl⟩⟩
  case round =>
    rename World => wr
    obtain ⟨k, A', n', c', rl, hk, rfl, rfl, hh⟩ := hrel
    have RL := Lib.hid hh.out.1
    have OW := Lib.hid hh.out.2.1
    have BE := Lib.hid hh.out.2.2.1
    have HNL := Lib.hid hh.out.2.2.2
    clear hh
    by_cases hlt : k < n
    · obtain ⟨g1, o1, x, rfl, hg1, hx, hxo, hx0, hx1, hx2, hx3⟩ := (HH.out.to BE.out).at_ (k := k) (by rw [HN.out]; exact hlt)
      have hltI : (k : Int) < (n : Int) := by omega
      have h0I : (0 : Int) ≤ (k : Int) := by omega
      have HX : Hid ((jps l)[k]? = some x.p) := Lib.hid (by rw [jps, List.getElem?_map, hx]; rfl)
      have hgr : g1 < wr.heap.size := hg1
      have HSN := Lib.hid (Jp.shut_snoc HX.out)
      have hws : w.heap.size ≤ wr.heap.size := BE.out.size
      have hnn : n' ≤ k := by have h := Jp.shut_length ((jps l).take k); rw [← RL.out, ← HNL.out] at *; simp only [List.length_take] at h; omega
      obtain ⟨⟨tx, who, text, st⟩, XA, xc⟩ := x
      dsimp only at hx0 hx1 hx2 hx3 HSN
      clear hx hxo HX
      by_cases h1 : st = 1
      · have h1I : ((st : Int) == 1) = true := by subst h1; rfl
        have HS1 : Hid (rl ++ [Jp.shutOne ⟨tx, who, text, st⟩] = Jp.shut ((jps l).take (k + 1))) := Lib.hid (by rw [HSN.out, if_pos h1, RL.out])
        clear h1
        go_wp2_with (at_builtin; (refine wpList_append_rn (f := recK.f) (s := 5) _ rfl (.tmp 17) (.tmp 24) 22 rfl (fun _ => rfl) (by decide) recK_fine.one w.heap.size 31 iR _ _ Try.underlying22 hifR hr0 hr1 hr2 (by decide) rfl A' c' n' (rl.map rc0) rfl (by rw [List.length_map]; exact HNL.out) (own_below OW.out (bel_alloc (Below.refl _ _) _)) (wr.heap.size + 1) _ [rc0 (Jp.shutOne ⟨tx, who, text, st⟩)] 1 1 rfl rfl (Recs.lits (f := recK.f) (s := 5) (fun _ => rfl) (by decide) _ _ _ _ _ _ rfl (by simp) (by simp)) (by simp) (n' + 1) rfl (by omega) (by simp; omega) ?_); intro A4 c4 w4 o4 g4 b4; have O4 := Lib.hid o4; have BE4 : Hid (Below w.heap.size w w4) := Lib.hid ((bel_alloc BE.out _).trans b4); clear o4 g4 b4)
        clear h1I
        go_wp2
        go_roundw
        case rel => exact ⟨k + 1, A4, n' + 1, c4, _, by omega, by go_num, rfl, Lib.hid ⟨HS1.out, by rw [List.map_append]; exact O4.out, BE4.out, by rw [List.length_append, HNL.out]; rfl⟩⟩
        case measure => simp [intOf]; omega
      · have h1I : ((st : Int) == 1) = false := beq_eq_false_iff_ne.2 (by omega)
        have HS1 : Hid (rl = Jp.shut ((jps l).take (k + 1))) := Lib.hid (by rw [HSN.out, if_neg h1, List.append_nil, RL.out])
        clear h1
        go_wp2
        go_roundw
        case rel => exact ⟨k + 1, A', n', c', rl, by omega, by go_num, rfl, Lib.hid ⟨HS1.out, OW.out, BE.out, HNL.out⟩⟩
        case measure => simp [intOf]; omega
    · obtain rfl : k = n := by omega
      have HF : Hid (Jp.shut (jps l) = rl) := Lib.hid (by rw [RL.out, List.take_of_length_le (by rw [jps, List.length_map, HN.out]; exact Nat.le_refl _)])
      go_wp2
      go_ret
      refine ⟨A', c', ?_, ?_, BE.out⟩
      · rw [HF.out, HNL.out]; rfl
      · rw [HF.out, HNL.out]; exact OW.out
/-- the document's Find: the first job with that number -/
def Jp.rfind (l : List Jp) (tx : Nat) : Option Nat := l.findIdx? fun j => decide (j.tx = tx)
end Go.Proofs.Ytegmeodmjaijnaa
