/- The walk of stage.Read, where the words are a block that fits. The walk of bank.Same. copy into a row of words of the call's own. -/
import Derived.Test.YtajbghjjpebndaaQ06
import Derived.Deep.RegionHeld3
import Derived.Test.YtajbghjjpebndaaQ05
import Derived.Test.YtajbghjjpebndaaQ04
import Derived.Laws.CopyOwn
namespace Go.Proofs.Ytajbghjjpebndaa
set_option maxRecDepth 100000
open Go.RowKit
set_option linter.unusedVariables false
attribute [local go_sem] Later.cell Later.frozen setCell_twice
end Go.Proofs.Ytajbghjjpebndaa
namespace Go.Proofs.Ytajbghjjpebndaa
set_option maxRecDepth 100000
open Go.RowKit
set_option linter.unusedVariables false
attribute [local go_sem] Later.cell Later.frozen setCell_twice
set_option maxHeartbeats 400000 in
theorem same1_any (a b : Blk) (r : Bool) (w : World) (ha : a.Ok w w.heap.size) (hb : b.Ok w w.heap.size) (hla : a.ws.length ≤ 140737488355328) (hr : decide (a.pr = b.pr) = r) :
    Calls Try.prog 104 #[.agg #[.int .i64 a.a, .slice a.A a.ws.length a.c], .agg #[.int .i64 b.a, .slice b.A b.ws.length b.c]] w fun e w' => e = .returned (.bool r) ∧ Below w.heap.size w w' := by
  by_cases h : a.a = b.a
  · have ke := Lib.hid (fun W (hW : Below w.heap.size w W) => eqlWords_any a.A b.A a.ws b.ws a.c b.c _ _ r W rfl rfl (ha.to hW).sq (hb.to hW).sq hla (by rw [← hr, decide_eq_decide]; simp [h]))
    have h' : (a.a == b.a) = true := by rw [beq_iff_eq]; exact h
    have HH := Lib.hid h
    clear h hr
    go_enter Try.func104, Try.ntmps104
    go_wp2_with fail
    refine (ke.out _ (by repeat (first | with_reducible exact Below.refl _ _ | with_reducible refine bel_later _ ?_ | with_reducible refine bel_alloc ?_ _ | refine bel_set ?_ (by first | omega | (simp; done) | (simp; omega)) _ | with_reducible refine Below.drew ?_ | with_reducible refine bel_drewN ?_ _ | with_reducible assumption | assumption))).mono ?_
    rintro e_x1 w_x1 ⟨rfl, hb_x1⟩
    obtain ⟨x1, rfl⟩ := later_is hb_x1
    clear hb_x1
    have hz_x1 := x1.bel.size
    try simp at hz_x1
    go_wp2
    go_ret
    exact ⟨rfl, (by repeat (first | with_reducible exact Below.refl _ _ | with_reducible refine bel_later _ ?_ | with_reducible refine bel_alloc ?_ _ | refine bel_set ?_ (by first | omega | (simp; done) | (simp; omega)) _ | with_reducible refine Below.drew ?_ | with_reducible refine bel_drewN ?_ _ | with_reducible assumption | assumption))⟩
  · have h' : (a.a == b.a) = false := beq_eq_false_iff_ne.2 h
    obtain rfl : r = false := by rw [← hr]; simp [h]
    clear h hr
    go_enter Try.func104, Try.ntmps104
    go_wp2
    go_ret
    exact ⟨rfl, (by repeat (first | with_reducible exact Below.refl _ _ | with_reducible refine bel_later _ ?_ | with_reducible refine bel_alloc ?_ _ | refine bel_set ?_ (by first | omega | (simp; done) | (simp; omega)) _ | with_reducible refine Below.drew ?_ | with_reducible refine bel_drewN ?_ _ | with_reducible assumption | assumption))⟩
set_option maxHeartbeats 1000000 in
theorem equalFunc_any (A B : Option Addr) (la lb : List Blk) (ca cb : Nat) (w : World) (ha : Blks w w.heap.size A la) (hb : Blks w w.heap.size B lb) (hn : la.length ≤ 9223372036854775807) (hl : ∀ b ∈ la, b.ws.length ≤ 140737488355328) :
    Calls Try.prog 103 #[.slice A la.length ca, .slice B lb.length cb, .func (.func 104) #[] #[]] w fun e w' => e = .returned (.bool (decide (prs la = prs lb))) ∧ Below w.heap.size w w' := by
  by_cases hlen : la.length = lb.length
  · have hl' : ((la.length : Int) != (lb.length : Int)) = false := by rw [bne_eq_false_iff_eq]; omega
    have HL := Lib.hid hlen
    clear hlen
    go_enter Try.func103, Try.ntmps103
    go_wp2
    go_loopw [17] (fun i wr => ∃ k : Nat, k ≤ la.length ∧ i = .int .i64 k ∧ prs (la.take k) = prs (lb.take k) ∧ Below w.heap.size w wr) (fun i _ => la.length - (intOf i).toNat)
    case atStart => exact ⟨0, by omega, rfl, by simp, Below.refl _ _⟩
    case round =>
      obtain ⟨k, hk, rfl, heq, hbel⟩ := hrel
      have HQ := Lib.hid heq
      clear heq
      by_cases hlt : k < la.length
      · have hlt2 : k < lb.length := by have := HL.out; omega
        obtain ⟨g1, o1, x, rfl, hg1, hx, hxo, hx0, hx1⟩ := (ha.to hbel).at_ hlt
        obtain ⟨g2, o2, y, rfl, hg2, hy, hyo, hy0, hy1⟩ := (hb.to hbel).at_ hlt2
        have hxl := hl x (List.mem_of_getElem? hx)
        have e1 : (k : Int) < (la.length : Int) := by omega
        have e2 : (k : Int) < (lb.length : Int) := by omega
        obtain ⟨r, hr⟩ : ∃ r, decide (x.pr = y.pr) = r := ⟨_, rfl⟩
        have ks := Lib.hid (fun W (h : Below wr.heap.size wr W) => same1_any x y r W (hxo.to h) (hyo.to h) hxl hr)
        have HX := Lib.hid hx
        have HY := Lib.hid hy
        have HRR := Lib.hid hr
        clear hx hy hr hxo hyo
        go_wp2_with fail
        refine (ks.out _ (by repeat (first | with_reducible exact Below.refl _ _ | with_reducible refine bel_later _ ?_ | with_reducible refine bel_alloc ?_ _ | refine bel_set ?_ (by first | omega | (simp; done) | (simp; omega)) _ | with_reducible refine Below.drew ?_ | with_reducible refine bel_drewN ?_ _ | with_reducible assumption | assumption))).mono ?_
        rintro e_x3 w_x3 ⟨rfl, hb_x3⟩
        obtain ⟨x3, rfl⟩ := later_is hb_x3
        clear hb_x3
        have hz_x3 := x3.bel.size
        try simp at hz_x3
        cases r
        · have HD : Hid (decide (prs la = prs lb) = false) := Lib.hid (by
            rw [decide_eq_false_iff_not]
            intro h
            have h1 := prs_get HX.out
            rw [h, prs_get HY.out] at h1
            have h2 := HRR.out
            rw [decide_eq_false_iff_not] at h2
            exact h2 (by simpa using h1.symm))
          go_wp2
          go_ret
          exact ⟨by rw [HD.out]; rfl, bel_later x3 (bel_alloc (bel_alloc hbel _) _)⟩
        · have HD : Hid (prs (la.take (k + 1)) = prs (lb.take (k + 1))) := Lib.hid (by
            have h2 := HRR.out
            rw [decide_eq_true_eq] at h2
            rw [List.take_add_one, List.take_add_one, HX.out, HY.out]
            simp only [prs, List.map_append, Option.toList, List.map_cons, List.map_nil] at HQ ⊢
            rw [HQ.out, h2])
          go_wp2
          go_roundw
          case rel => exact ⟨k + 1, by omega, by go_num, HD.out, bel_later x3 (bel_alloc (bel_alloc hbel _) _)⟩
          case measure => simp [intOf]; omega
      · have hkl : k = la.length := by omega
        have HD : Hid (decide (prs la = prs lb) = true) := Lib.hid (by
          have h1 := HQ.out
          rw [List.take_of_length_le (by omega), List.take_of_length_le (by have := HL.out; omega)] at h1
          simpa using h1)
        go_wp2
        go_ret
        exact ⟨by rw [HD.out]; rfl, hbel⟩
  · have hl' : ((la.length : Int) != (lb.length : Int)) = true := by rw [bne_iff_ne]; omega
    have hd : decide (prs la = prs lb) = false := by
      rw [decide_eq_false_iff_not]
      intro h
      have := congrArg List.length h
      simp at this
      exact hlen this
    rw [hd]
    clear hlen hd
    go_enter Try.func103, Try.ntmps103
    go_wp2
    go_ret
    exact ⟨rfl, (by repeat (first | with_reducible exact Below.refl _ _ | with_reducible refine bel_later _ ?_ | with_reducible refine bel_alloc ?_ _ | refine bel_set ?_ (by first | omega | (simp; done) | (simp; omega)) _ | with_reducible refine Below.drew ?_ | with_reducible refine bel_drewN ?_ _ | with_reducible assumption | assumption))⟩
theorem sameBlocks_any (A B : Option Addr) (la lb : List Blk) (ca cb n m : Nat) (r : Bool) (w : World) (hna : la.length = n) (hnb : lb.length = m) (ha : Blks w w.heap.size A la) (hb : Blks w w.heap.size B lb) (hn : la.length ≤ 9223372036854775807) (hl : ∀ b ∈ la, b.ws.length ≤ 140737488355328) (hr : decide (prs la = prs lb) = r) :
    Calls Try.prog 80 #[.slice A n ca, .slice B m cb] w fun e w' => e = .returned (.bool r) ∧ Below w.heap.size w w' := by
  subst hna hnb hr
  have ke := Lib.hid (equalFunc_any A B la lb ca cb w ha hb hn hl)
  go_enter Try.func80, Try.ntmps80
  go_wp2_with fail
  refine (ke.out).mono ?_
  rintro e_x1 w_x1 ⟨rfl, hb_x1⟩
  obtain ⟨x1, rfl⟩ := later_is hb_x1
  clear hb_x1
  have hz_x1 := x1.bel.size
  try simp at hz_x1
  go_wp2
  go_ret
  exact ⟨rfl, (by repeat (first | with_reducible exact Below.refl _ _ | with_reducible refine bel_later _ ?_ | with_reducible refine bel_alloc ?_ _ | refine bel_set ?_ (by first | omega | (simp; done) | (simp; omega)) _ | with_reducible refine Below.drew ?_ | with_reducible refine bel_drewN ?_ _ | with_reducible assumption | assumption))⟩
end Go.Proofs.Ytajbghjjpebndaa
namespace Go.Proofs.Ytajbghjjpebndaa
set_option maxRecDepth 100000
open Go.RowKit
set_option linter.unusedVariables false
theorem own_full {w : World} {base e g n : Nat} {xs : List Value} (h : w.ownsRow base e 1 (.slice (some ⟨g, 0, none⟩) n n) n xs) : w.heap[g]? = some (.cells xs.toArray e (0, 0)) ∧ base ≤ g ∧ n ≤ maxLen := by
  rcases h.2 with ⟨h1, _⟩ | ⟨g', cap, cur, hv, hg, hh, _, hm, hs, ht⟩
  · cases h1
  · obtain ⟨rfl, rfl⟩ : g = g' ∧ n = cap := by simpa using hv
    refine ⟨?_, hg, hm⟩
    rw [hh, ← ht, List.take_of_length_le (by simpa using (show cur.size ≤ n by omega))]
theorem own_of_full {w : World} {base e g n : Nat} {xs : List Value} (h : w.heap[g]? = some (.cells xs.toArray e (0, 0))) (hb : base ≤ g) (hn : xs.length = n) (hm : n ≤ maxLen) : w.ownsRow base e 1 (.slice (some ⟨g, 0, none⟩) n n) n xs :=
  ⟨by omega, .inr ⟨g, n, xs.toArray, rfl, hb, h, Nat.le_refl _, hm, by simpa using hn, by simp [← hn]⟩⟩
theorem splice_map {α β : Type} (f : α → β) (L X : List α) (off : Nat) : splice (L.map f) off (X.map f) = (splice L off X).map f := by simp [splice]
theorem size_w16 : (Try.prog.info? 24).map (·.size) = some 1 := by kernel_rfl
theorem wpList_copy_words {w : World} {ops : Array Oper} {rest : List Oper} {o : Oper} {a : Act} {Q : Exit → Act → World → Prop} (hgd : o.guard = none) (d s : Operand)
    (ho : o.op = .call { callee := .builtin .copy, args := #[d, s], argTypes := #[22, 22] }) (base g off N : Nat) (L X : List Nat) (hown : w.ownsRow base 24 1 (.slice (some ⟨g, 0, none⟩) N N) N (L.map u16w))
    (dp : Option Addr) (dLen dCap : Nat) (hd : a.eval d = .slice dp dLen dCap) (hdp : 0 < X.length → dp = some ⟨g, off, none⟩) (Ax : Option Addr) (m cx B : Nat) (hs : a.eval s = .slice Ax m cx) (hm : X.length = m) (hmd : m ≤ dLen) (hX : Sq u16w w B Ax X) (hoff : off + m ≤ N)
    (h : ∀ w', w'.ownsRow base 24 1 (.slice (some ⟨g, 0, none⟩) N N) N ((splice L off X).map u16w) → Below base w w' → wpList Try.prog ops Q rest (a.put o.dst (goInt m)) w') :
    wpList Try.prog ops Q (o :: rest) a w := by
  obtain ⟨hh, hbg, hN⟩ := own_full hown
  have hLl : L.length = N := by have := hown.1; simpa using this
  refine wpList_copy_splice hgd d s _ _ ho 24 Try.underlying22 size_w16 dp Ax dLen dCap m cx hd hs g off (L.map u16w) 24 hh (X.map u16w) (by rw [List.length_map, hm]; exact (Nat.min_eq_left hmd).symm) (fun hp => ?_) (by simp; omega) (by intro v hv; obtain ⟨x, _, rfl⟩ := List.mem_map.1 hv; rfl) base w (Below.refl _ _) hbg (fun w' hg' hb' => ?_)
  · rw [List.length_map] at hp
    obtain ⟨b2, o2, rfl, _, hc⟩ := hX hp
    refine ⟨hdp hp, _, rfl, fun j v hv => ?_⟩
    have hadd : (⟨b2, o2, none⟩ : Addr).add j = ⟨b2, o2 + j, none⟩ := by unfold Addr.add; split <;> simp_all
    rw [hadd]
    simp only [List.getElem?_map, Option.map_eq_some_iff] at hv
    obtain ⟨y, hy, rfl⟩ := hv
    exact hc j y hy
  · have hl2 : (X.map u16w).length = m := by simp [hm]
    rw [hl2]
    refine h w' ?_ hb'
    rw [← splice_map]
    exact own_of_full hg'.out hbg (by rw [length_splice _ _ _ (by simp; omega)]; simp [hLl]) hN
theorem step_copy_words {w : World} {ops : Array Oper} {o : Oper} {a : Act} {K : Act → World → Prop} {Q : Exit → Act → World → Prop} {E : Prop} (hgd : o.guard = none) (d s : Operand)
    (ho : o.op = .call { callee := .builtin .copy, args := #[d, s], argTypes := #[22, 22] }) (base g off N : Nat) (L X : List Nat) (hown : w.ownsRow base 24 1 (.slice (some ⟨g, 0, none⟩) N N) N (L.map u16w))
    (dp : Option Addr) (dLen dCap : Nat) (hd : a.eval d = .slice dp dLen dCap) (hdp : 0 < X.length → dp = some ⟨g, off, none⟩) (Ax : Option Addr) (m cx B : Nat) (hs : a.eval s = .slice Ax m cx) (hm : X.length = m) (hmd : m ≤ dLen) (hX : Sq u16w w B Ax X) (hoff : off + m ≤ N)
    (h : ∀ w', w'.ownsRow base 24 1 (.slice (some ⟨g, 0, none⟩) N N) N ((splice L off X).map u16w) → Below base w w' → K (a.put o.dst (goInt m)) w') :
    if Region.wanted o (yielded ops a.tmps) = true then Oper.wp Try.prog o a w K Q else E := by
  obtain ⟨hh, hbg, hN⟩ := own_full hown
  have hLl : L.length = N := by have := hown.1; simpa using this
  refine step_copy_splice hgd d s _ _ ho 24 Try.underlying22 size_w16 dp Ax dLen dCap m cx hd hs g off (L.map u16w) 24 hh (X.map u16w) (by rw [List.length_map, hm]; exact (Nat.min_eq_left hmd).symm) (fun hp => ?_) (by simp; omega) (by intro v hv; obtain ⟨x, _, rfl⟩ := List.mem_map.1 hv; rfl) base w (Below.refl _ _) hbg (fun w' hg' hb' => ?_)
  · rw [List.length_map] at hp
    obtain ⟨b2, o2, rfl, _, hc⟩ := hX hp
    refine ⟨hdp hp, _, rfl, fun j v hv => ?_⟩
    have hadd : (⟨b2, o2, none⟩ : Addr).add j = ⟨b2, o2 + j, none⟩ := by unfold Addr.add; split <;> simp_all
    rw [hadd]
    simp only [List.getElem?_map, Option.map_eq_some_iff] at hv
    obtain ⟨y, hy, rfl⟩ := hv
    exact hc j y hy
  · have hl2 : (X.map u16w).length = m := by simp [hm]
    rw [hl2]
    refine h w' ?_ hb'
    rw [← splice_map]
    exact own_of_full hg'.out hbg (by rw [length_splice _ _ _ (by simp; omega)]; simp [hLl]) hN
end Go.Proofs.Ytajbghjjpebndaa
