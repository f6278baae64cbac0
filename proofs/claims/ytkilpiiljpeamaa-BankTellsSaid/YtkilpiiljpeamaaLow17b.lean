/- The walks of saucierlow.Bank, SameBlocks (seats without stages). -/
import Derived.Test.YtkilpiiljpeamaaLow17
import Derived.Laws.CopyOwn
namespace Go.Proofs.Ytkilpiiljpeamaa
open Go.RowKit
set_option linter.unusedVariables false
attribute [local go_sem] Later.cell Later.frozen setCell_twice
theorem wpList_copy_cut {w : World} {ops : Array Oper} {rest : List Oper} {o : Oper} {a : Act} {Q : Exit → Act → World → Prop} (hgd : o.guard = none) (d s : Operand)
    (ho : o.op = .call { callee := .builtin .copy, args := #[d, s], argTypes := #[22, 22] }) (base g off N : Nat) (L X : List Nat) (hown : w.ownsRow base 25 1 (.slice (some ⟨g, 0, none⟩) N N) N (L.map u16w))
    (dp : Option Addr) (dLen dCap : Nat) (hd : a.eval d = .slice dp dLen dCap) (hdp : 0 < X.length → dp = some ⟨g, off, none⟩) (Ax : Option Addr) (m cx B : Nat) (hs : a.eval s = .slice Ax m cx) (hm : X.length = Nat.min m dLen) (hX : Sq u16w w B Ax X) (hoff : off + X.length ≤ N)
    (h : ∀ w', w'.ownsRow base 25 1 (.slice (some ⟨g, 0, none⟩) N N) N ((splice L off X).map u16w) → Below base w w' → wpList Try.prog ops Q rest (a.put o.dst (goInt X.length)) w') :
    wpList Try.prog ops Q (o :: rest) a w := by
  obtain ⟨hh, hbg, hN⟩ := own_full hown
  have hLl : L.length = N := by have := hown.1; simpa using this
  refine wpList_copy_splice hgd d s _ _ ho 25 Try.underlying22 size_w16 dp Ax dLen dCap m cx hd hs g off (L.map u16w) 25 hh (X.map u16w) (by rw [List.length_map, hm]) (fun hp => ?_) (by simp; omega) (by intro v hv; obtain ⟨x, _, rfl⟩ := List.mem_map.1 hv; rfl) base w (Below.refl _ _) hbg (fun w' hg' hb' => ?_)
  · rw [List.length_map] at hp
    obtain ⟨b2, o2, rfl, _, hc⟩ := hX hp
    refine ⟨hdp hp, _, rfl, fun j v hv => ?_⟩
    have hadd : (⟨b2, o2, none⟩ : Addr).add j = ⟨b2, o2 + j, none⟩ := by unfold Addr.add; split <;> simp_all
    rw [hadd]
    simp only [List.getElem?_map, Option.map_eq_some_iff] at hv
    obtain ⟨y, hy, rfl⟩ := hv
    exact hc j y hy
  · rw [List.length_map]
    refine h w' ?_ hb'
    rw [← splice_map]
    exact own_of_full hg'.out hbg (by rw [length_splice _ _ _ (by simp; omega)]; simp [hLl]) hN
/-- 64 words, out of any -/
def bank64 (l : List Nat) : List Nat := splice (List.replicate 64 0) 0 (l.take 64)
theorem bank64_length (l : List Nat) : (bank64 l).length = 64 := by unfold bank64; rw [length_splice _ _ _ (by simp; omega)]; simp
theorem bank64_u16 {l : List Nat} (h : ∀ x ∈ l, x < 65536) : ∀ x ∈ bank64 l, x < 65536 := by
  intro x hx
  unfold bank64 splice at hx
  simp only [List.take_zero, List.nil_append, List.mem_append] at hx
  rcases hx with hx | hx
  · exact h x (List.mem_of_mem_take hx)
  · have := List.eq_of_mem_replicate (List.mem_of_mem_drop hx)
    omega
theorem made_w (n : Nat) : (madeCells #[Value.int .u16 0] n).toList = (List.replicate n 0).map u16w := made_map u16w 0 n
set_option maxRecDepth 100000 in
set_option maxHeartbeats 400000 in
theorem bank_any (A : Option Addr) (l : List Nat) (n c : Nat) (w : World) (hn : l.length = n) (h : Sq u16w w w.heap.size A l) :
    Calls Try.prog 8 #[.slice A n c] w fun e w' => ∃ g, e = .returned (.slice (some ⟨g, 0, none⟩) 64 64) ∧ w'.ownsRow w.heap.size 25 1 (.slice (some ⟨g, 0, none⟩) 64 64) 64 ((bank64 l).map u16w) ∧ Below w.heap.size w w' := by
  obtain ⟨i0, hif, hz0, hz1, hz2⟩ := info_parts info_w16
  have HN := Lib.hid hn
  have HS := Lib.hid (h.take 64)
  clear hn h
  go_enter Try.func8, Try.ntmps8
  go_wp2_with (first | (at_make; refine wpList_make_full _ rfl _ _ 22 rfl w.heap.size 25 i0 (.int .u16 0) 1 Try.underlying22 hif hz0 hz1 _ _ _ _ 64 rfl rfl rfl rfl (by rw [hz2]; omega) (by unfold Go.maxLen; omega) (by simp) ?_; intro w2 o2 hg2; have hb2 : Below w.heap.size w w2 := (Below.refl _ _).grown hg2 (Nat.le_refl _) (by simp); have o2' : w2.ownsRow w.heap.size 25 1 (.slice (some ⟨w.heap.size, 0, none⟩) 64 64) 64 ((List.replicate 64 0).map u16w) := (by rw [← made_w]; exact o2); have O2 := Lib.hid o2'; have S2 := Lib.hid (HS.out.below hb2); have B2 := Lib.hid hb2; clear hg2 o2 o2' hb2) | (refine wpList_copy_cut rfl (.tmp 5) (.tmp 6) rfl w.heap.size w.heap.size 0 64 (List.replicate 64 0) (l.take 64) O2.out (some ⟨w.heap.size, 0, none⟩) 64 64 rfl (fun _ => rfl) A n c w.heap.size rfl (by rw [List.length_take, HN.out]; exact Nat.min_comm _ _) S2.out (by simp; omega) ?_; intro w3 o3 hb3; have O3 := Lib.hid o3; have B3 := Lib.hid (B2.out.trans hb3); clear o3 hb3))
  go_ret
  exact ⟨_, rfl, O3.out, B3.out⟩
set_option maxRecDepth 100000 in
set_option maxHeartbeats 1000000 in
theorem lowBlocks_any (A B : Option Addr) (la lb : List Blk) (ca cb n m : Nat) (r : Bool) (w : World) (hna : la.length = n) (hnb : lb.length = m) (ha : Blks w w.heap.size A la) (hb : Blks w w.heap.size B lb) (hn : la.length ≤ 9223372036854775807) (hca : n ≤ ca) (hcb : m ≤ cb) (hl : ∀ b ∈ la, b.ws.length ≤ 140737488355328) (hr : decide (prs la = prs lb) = r) :
    Calls Try.prog 21 #[.slice A n ca, .slice B m cb] w fun e w' => e = .returned (.bool r) ∧ Below w.heap.size w w' := by
  by_cases hnm : n = m
  rotate_left
  · obtain rfl : r = false := by rw [← hr]; exact decide_eq_false (fun h => hnm (by have := congrArg List.length h; simp at this; omega))
    have g1 : ((n : Int) != (m : Int)) = true := bne_iff_ne.2 (by omega)
    have g1' : ((n : Int) == (m : Int)) = false := beq_eq_false_iff_ne.2 (by omega)
    clear hr
    go_enter Try.func21, Try.ntmps21
    go_wp2
    go_ret
    exact ⟨rfl, (by repeat (first | with_reducible exact Below.refl _ _ | with_reducible refine bel_later _ ?_ | with_reducible refine bel_alloc ?_ _ | refine bel_set ?_ (by first | omega | (simp; done) | (simp; omega)) _ | with_reducible refine Below.drew ?_ | with_reducible refine bel_drewN ?_ _ | with_reducible assumption | assumption))⟩
  · subst hnm
    have HR := Lib.hid hr
    have HNA := Lib.hid hna
    have HNB := Lib.hid hnb
    have hnn : n ≤ 9223372036854775807 := by omega
    clear hr hna hnb
    go_enter Try.func21, Try.ntmps21
    go_wp2
    go_loopw [13] (fun i wr => ∃ k : Nat, k ≤ n ∧ i = .int .i64 k ∧ (prs la).take k = (prs lb).take k ∧ Below w.heap.size w wr) (fun i _ => n - (intOf i).toNat)
    case atStart => exact ⟨0, by omega, rfl, by simp, Below.refl _ _⟩
    case round =>
      obtain ⟨k, hk, rfl, htk, hbe⟩ := hrel
      have HTK := Lib.hid htk
      clear htk
      by_cases hlt : k < n
      · obtain ⟨g, o, x, rfl, hg, hx, hxo, hw0, hw1⟩ := (ha.to hbe).at_ (k := k) (by rw [HNA.out]; exact hlt)
        obtain ⟨g', o', y, rfl, hg', hy, hyo, hv0, hv1⟩ := (hb.to hbe).at_ (k := k) (by rw [HNB.out]; exact hlt)
        have hltI : (k : Int) < (n : Int) := by omega
        have h0I : (0 : Int) ≤ (k : Int) := by omega
        have hkca : (k : Int) < (ca : Int) := by omega
        have hkcb : (k : Int) < (cb : Int) := by omega
        have hlx := hl x (List.mem_of_getElem? hx)
        have HX := Lib.hid (prs_get hx)
        have HY := Lib.hid (prs_get hy)
        have hno : x.pr ≠ y.pr → r = false := fun hne => by
          rw [← HR.out]
          refine decide_eq_false (fun h => hne ?_)
          have h1 := HX.out
          rw [h, HY.out] at h1
          exact (Option.some.inj h1).symm
        have HNO := Lib.hid hno
        have BE := Lib.hid hbe
        by_cases e1 : x.a = y.a
        rotate_left
        · obtain rfl : r = false := HNO.out (fun h => e1 (congrArg Prod.fst h))
          have g1 : (x.a != y.a) = true := bne_iff_ne.2 e1
          have g1' : (x.a == y.a) = false := beq_eq_false_iff_ne.2 e1
          clear e1 hx hy hno hxo hyo hbe
          go_wp2
          refine wp_region_lat (by kernel_rfl) (by kernel_rfl) ?_
          repeat (go_big_quiet_step (fail))
          refine wpQuiet_nil ?_
          rintro _ ⟨x3, rfl⟩
          have hz_x3 := x3.bel.size
          try simp at hz_x3
          go_wp2
          go_ret
          exact ⟨rfl, bel_later x3 BE.out⟩
        · obtain ⟨rr, hrr⟩ : ∃ rr, decide (x.ws = y.ws) = rr := ⟨_, rfl⟩
          have kw := Lib.hid (fun W (hW : Below wr.heap.size wr W) => lowWords_any x.A y.A x.ws y.ws x.c y.c _ _ rr W rfl rfl (hxo.to hW).sq (hyo.to hW).sq hlx hrr)
          have hrr2 : rr = true → x.pr = y.pr := fun h => by
            rw [h, decide_eq_true_eq] at hrr
            show (x.a, x.ws) = (y.a, y.ws)
            rw [e1, hrr]
          have hrr3 : rr = false → x.pr ≠ y.pr := fun h he => by
            rw [h, decide_eq_false_iff_not] at hrr
            exact hrr (congrArg Prod.snd he)
          have HRT := Lib.hid hrr2
          have HRF := Lib.hid hrr3
          have g1 : (x.a != y.a) = false := by simp [e1]
          rw [e1] at hw0 g1
          clear e1 hx hy hno hxo hyo hbe hrr hrr2 hrr3
          go_wp2
          refine wp_region_lat (by kernel_rfl) (by kernel_rfl) ?_
          repeat (go_big_quiet_step (fail))
          go_big_quiet_step (exact later_new (kw.out _ (Later.bel _)))
          repeat (go_big_quiet_step (fail))
          refine wpQuiet_nil ?_
          rintro _ ⟨x3, rfl⟩
          have hz_x3 := x3.bel.size
          try simp at hz_x3
          cases rr
          · obtain rfl : r = false := HNO.out (HRF.out rfl)
            go_wp2
            go_ret
            exact ⟨rfl, bel_later x3 BE.out⟩
          · have HPR := Lib.hid (HRT.out rfl)
            go_wp2
            go_roundw
            case rel => first | exact ⟨k + 1, by omega, by go_num, take_next HTK.out HX.out HY.out HPR.out, bel_later x3 BE.out⟩ | ((repeat apply Exists.intro); exact ⟨⟨k + 1, by omega, by go_num, take_next HTK.out HX.out HY.out HPR.out, bel_later x3 BE.out⟩, rfl⟩)
            case measure => simp [intOf]; omega
      · obtain rfl : k = n := by omega
        have hq : r = true := by
          rw [← HR.out]
          refine decide_eq_true ?_
          have := HTK.out
          rwa [List.take_of_length_le (by simp [HNA.out]), List.take_of_length_le (by simp [HNB.out])] at this
        subst hq
        go_wp2
        go_ret
        exact ⟨rfl, hbe⟩
end Go.Proofs.Ytkilpiiljpeamaa
