/- row: the bytes of right records, one behind the other, and where each ends. -/
import Derived.Test.YtbokggilfepdhaaNvSame
import Derived.Test.YtbokggilfepdhaaNvBytes
import Derived.Test.YtbokggilfepdhaaAppRN
import Derived.Test.YtbokggilfepdhaaOpenRc
import Derived.Test.YtbokggilfepdhaaNvOp
namespace Go.Proofs.Ytbokggilfepdhaa
open Go.RowKit
set_option linter.unusedVariables false
attribute [local go_sem] Later.cell Later.frozen setCell_twice
def intw (n : Nat) : Value := .int .i64 (n : Int)
theorem info_i : (Try.prog.info? 3).map (fun i => (i.zero, i.size, i.bytes)) = some (some (.int .i64 0), 1, 8) := by kernel_rfl
namespace Nr
def ends (H : List Nr) : List Nat := (List.range (H.length + 1)).map (fun k => (all (H.take k)).length)
theorem ends_nil : ends [] = [0] := rfl
theorem ends_length (H : List Nr) : (ends H).length = H.length + 1 := by simp [ends]
theorem ends_get {H : List Nr} {k : Nat} (h : k ≤ H.length) : (ends H)[k]? = some (all (H.take k)).length := by
  unfold ends
  rw [List.getElem?_map, List.getElem?_range (by omega)]
  rfl
theorem ends_snoc (H : List Nr) (x : Nr) : ends (H ++ [x]) = ends H ++ [(all (H ++ [x])).length] := by
  unfold ends
  rw [List.length_append, List.length_singleton, List.range_succ, List.map_append]
  congr 1
  · apply List.map_congr_left
    intro k hk
    rw [List.take_append_of_le_length (by have := List.mem_range.1 hk; omega)]
  · rw [List.map_singleton, List.take_of_length_le (by simp)]
theorem all_le : ∀ (H : List Nr), (∀ x ∈ H, x.text.length ≤ 300) → (all H).length ≤ H.length * 313
  | [], _ => by simp [all]
  | x :: H, h => by
    have h1 := all_le H (fun y hy => h y (List.mem_cons_of_mem _ hy))
    have h2 := h x List.mem_cons_self
    rw [all_cons, List.length_append, bytes_length, size, List.length_cons]
    omega
end Nr
theorem own_grown2 {w w' : World} {B e s n c : Nat} {A : Option Addr} {xs : List Value} {row : Option Nat} (h : w.ownsRow B e s (.slice A n c) n xs) (hg : w.grownBy w' row) (ho : ∀ p, A = some p → some p.block ≠ row) : w'.ownsRow B e s (.slice A n c) n xs := by
  obtain ⟨h1, h2⟩ := h
  refine ⟨h1, ?_⟩
  rcases h2 with h2 | ⟨g, cap, cur, hv, hB, hh, r⟩
  · exact .inl h2
  · have hA : A = some ⟨g, 0, none⟩ := by simp at hv; exact hv.1
    exact .inr ⟨g, cap, cur, hv, hB, (hg.block g (Array.getElem?_eq_some_iff.1 hh).1 (ho _ hA)).trans hh, r⟩
/-- rows of other elements lie in other blocks -/
theorem own_ne {w : World} {B1 B2 e1 e2 s1 s2 n1 n2 c1 c2 : Nat} {A1 A2 : Option Addr} {xs1 xs2 : List Value} (h1 : w.ownsRow B1 e1 s1 (.slice A1 n1 c1) n1 xs1) (h2 : w.ownsRow B2 e2 s2 (.slice A2 n2 c2) n2 xs2) (he : e1 ≠ e2) : ∀ p, A1 = some p → some p.block ≠ (Value.slice A2 n2 c2).ownBlock := by
  intro p hp hq
  obtain ⟨q, hq, hqb⟩ := ownBlock_slice A2 n2 c2 p.block hq.symm
  rcases h1.2 with ⟨h, _⟩ | ⟨g, cap, cur, hv, _, hh, _⟩
  · have : A1 = none := by simp at h; exact h.1
    rw [hp] at this; cases this
  rcases h2.2 with ⟨h, _⟩ | ⟨g2, cap2, cur2, hv2, _, hh2, _⟩
  · have : A2 = none := by simp at h; exact h.1
    rw [hq] at this; cases this
  have hA : A1 = some ⟨g, 0, none⟩ := by simp at hv; exact hv.1
  have hA2 : A2 = some ⟨g2, 0, none⟩ := by simp at hv2; exact hv2.1
  rw [hp] at hA
  rw [hq] at hA2
  obtain rfl := Option.some.inj hA
  obtain rfl := Option.some.inj hA2
  replace hqb : g2 = g := hqb
  subst hqb
  rw [hh] at hh2
  have h3 := Option.some.inj hh2
  injection h3 with _ h4 _
  exact he h4
def RowP (w : World) (e : Ending) (w' : World) : Prop :=
  ∃ (A1 : Option Addr) (c1 : Nat) (A2 : Option Addr) (n2 c2 : Nat) (A3 : Option Addr) (c3 : Nat) (hs : List Rc) (m : Nat), e = .returned (.tuple #[.slice A1 m c1, .slice A2 n2 c2, .slice A3 (m + 1) c3]) ∧ hs.length = m ∧ m ≤ 12 ∧ (Nr.all (hs.map Rc.p)).length = n2
    ∧ w'.ownsRow w.heap.size 34 5 (.slice A1 m c1) m (hs.flatMap recK.f) ∧ w'.ownsRow w.heap.size 5 1 (.slice A2 n2 c2) n2 ((Nr.all (hs.map Rc.p)).map byw) ∧ w'.ownsRow w.heap.size 3 1 (.slice A3 (m + 1) c3) (m + 1) ((Nr.ends (hs.map Rc.p)).map intw)
    ∧ (∀ x ∈ hs, RcOk w w.heap.size x ∧ x.p.right = true ∧ x.p.text.length ≤ 300) ∧ Below w.heap.size w w'
set_option maxRecDepth 100000 in
set_option maxHeartbeats 2000000 in
theorem row_any (A : Option Addr) (l : List Rc) (c : Nat) (w : World) (h : Rcs w w.heap.size A l) (hnc : l.length ≤ c) (hc : c ≤ 9223372036854775807) (hA : A = none → c = 0) :
    Calls Try.prog 10 #[.slice A l.length c] w (RowP w) := by
  have HB := Lib.hid h
  obtain ⟨i1, hif1, hy0, hy1, hy2⟩ := info_parts info_record
  obtain ⟨i2, hif2, hx0, hx1, hx2⟩ := info_parts info_b8
  obtain ⟨i3, hif3, hw0, hw1, hw2⟩ := info_parts info_i
  obtain ⟨n, hn⟩ : ∃ n : Nat, n = min l.length 12 := ⟨_, rfl⟩
  have hmin : ∀ w, (Builtin.min_ #[3, 3] 3 #[.int .i64 (l.length : Int), .int .i64 12]).run Try.prog w = .ok (.int .i64 (n : Int)) w := fun w => run_min2n w _ _ l.length 12 n hn
  have hncap : n ≤ c := by omega
  have hn60 : n ≤ 12 := by omega
  have hnl : n ≤ l.length := by omega
  clear h hn
  cases A with
  | none =>
    obtain rfl : c = 0 := hA rfl
    obtain rfl : l = [] := List.eq_nil_of_length_eq_zero (by omega)
    obtain rfl : n = 0 := by omega
    simp only [List.length_nil] at hmin ⊢
    go_enter Try.func10, Try.ntmps10
    go_wp2
    clear hmin
    go_loopw [5, 6, 7, 19] (fun v5 v6 v7 i wr => v5 = .slice none 0 0 ∧ v6 = .slice none 0 0 ∧ v7 = .slice (some ⟨w.heap.size, 0, none⟩) 1 1 ∧ i = .int .i64 0 ∧ wr = w.alloc (.cells #[.int .i64 0] 3)) (fun _ _ _ i _ => 1 - (intOf i).toNat)
    case atStart => exact ⟨rfl, rfl, rfl, rfl, rfl⟩
    case round =>
      obtain ⟨rfl, rfl, rfl, rfl, rfl⟩ := hrel
      go_wp2
      go_ret3
      exact ⟨none, 0, none, 0, 0, some ⟨w.heap.size, 0, none⟩, 1, [], 0, rfl, rfl, by omega, rfl, World.ownsRow_nil _ _ _ _, World.ownsRow_nil _ _ _ _, ⟨by simp [Nr.ends], .inr ⟨w.heap.size, 1, #[.int .i64 0], rfl, Nat.le_refl _, heap_alloc_new w _, by omega, by simp [maxLen], by simp, by simp [Nr.ends, Nr.all, intw]⟩⟩, by simp, bel_alloc (Below.refl _ _) _⟩
  | some p =>
    go_enter Try.func10, Try.ntmps10
    go_wp2
    clear hmin
    go_loopw [5, 6, 7, 19] (fun v5 v6 v7 i wr => ∃ (k : Nat) (A1 : Option Addr) (c1 : Nat) (A2 : Option Addr) (n2 c2 : Nat) (A3 : Option Addr) (c3 : Nat) (hs : List Rc) (m : Nat), k ≤ n ∧ m ≤ k ∧ v5 = .slice A1 m c1 ∧ v6 = .slice A2 n2 c2 ∧ v7 = .slice A3 (m + 1) c3 ∧ i = .int .i64 (k : Int) ∧ Hid (hs.length = m) ∧ Hid ((Nr.all (hs.map Rc.p)).length = n2) ∧ Hid (wr.ownsRow w.heap.size 34 5 (.slice A1 m c1) m (hs.flatMap recK.f)) ∧ Hid (wr.ownsRow w.heap.size 5 1 (.slice A2 n2 c2) n2 ((Nr.all (hs.map Rc.p)).map byw)) ∧ Hid (wr.ownsRow w.heap.size 3 1 (.slice A3 (m + 1) c3) (m + 1) ((Nr.ends (hs.map Rc.p)).map intw))
      ∧ Hid (∀ x ∈ hs, RcOk w w.heap.size x ∧ x.p.right = true ∧ x.p.text.length ≤ 300) ∧ Hid (Below w.heap.size w wr)) (fun _ _ _ i _ => n - (intOf i).toNat)
    case atStart => exact ⟨0, none, 0, none, 0, 0, some ⟨w.heap.size, 0, none⟩, 1, [], 0, by omega, by omega, rfl, rfl, rfl, rfl, Lib.hid rfl, Lib.hid rfl, Lib.hid (World.ownsRow_nil _ _ _ _), Lib.hid (World.ownsRow_nil _ _ _ _), Lib.hid ⟨by simp [Nr.ends], .inr ⟨w.heap.size, 1, #[.int .i64 0], rfl, Nat.le_refl _, heap_alloc_new w _, by omega, by simp [maxLen], by simp, by simp [Nr.ends, Nr.all, intw]⟩⟩, Lib.hid (by simp), Lib.hid (bel_alloc (Below.refl _ _) _)⟩
    case round =>
      rename World => wr
      obtain ⟨k, A1, c1, A2, n2, c2, A3, c3, hs, m, hk, hmk, rfl, rfl, rfl, rfl, HLM, HL2, O1, O2, O3, HHS, BE⟩ := hrel
      have hz : w.heap.size ≤ wr.heap.size := BE.out.size
      by_cases hlt : k < n
      · obtain ⟨g, o, x, hA', hg, hx, hok0, _⟩ := HB.out.at_ (k := k) (by omega)
        obtain ⟨g', o', x', hA2', hg', hx', hok', d0, d1, d2, d3, d4⟩ := (HB.out.below BE.out).at_ (k := k) (by omega)
        cases hA'
        cases hA2'
        obtain rfl : x' = x := Option.some.inj (hx'.symm.trans hx)
        have hltI : (k : Int) < (n : Int) := by omega
        have h0I : (0 : Int) ≤ (k : Int) := by omega
        have hgr : g < wr.heap.size := Nat.lt_of_lt_of_le hg hz
        have XOK := Lib.hid hok0
        have ba := bel_alloc (Below.refl wr.heap.size wr) (.cells (recK.f x').toArray 34)
        have OR := Lib.hid (RowAt.new' wr wr.heap.size 34 (rcV x'.p.what x'.p.tx x'.p.who x'.p.yes x'.A x'.p.text.length x'.c) rfl)
        have kb := nbytes_any x'.p x'.A x'.c x'.p.text.length rfl hok0.fit (wr.alloc (.cells (recK.f x').toArray 34)) ((hok0.below (BE.out.trans (ba.mono hz))).sq.more (by simp; omega)) hok0.nl.1
        replace O1 := Lib.hid (own_below O1.out ba)
        replace O2 := Lib.hid (own_below O2.out ba)
        replace O3 := Lib.hid (own_below O3.out ba)
        replace BE := Lib.hid (BE.out.trans (ba.mono hz))
        clear hx hx' hok0 hok' ba hg'
        go_wp2_with fail
        refine kb.mono ?_
        clear kb
        rintro e w4 ⟨bb, hif⟩
        have hw4 : wr.heap.size < w4.heap.size := by have := bb.size; simp at this; omega
        replace O1 := Lib.hid (own_below O1.out bb)
        replace O2 := Lib.hid (own_below O2.out bb)
        replace O3 := Lib.hid (own_below O3.out bb)
        replace OR := Lib.hid (OR.out.to bb)
        replace BE := Lib.hid (BE.out.trans (bb.mono (by simp; omega)))
        have r4 : w4.cell? ⟨wr.heap.size, 4, none⟩ = some (.slice x'.A x'.p.text.length x'.c) := OR.out.cell rfl
        have z4 : w4.frozen? ⟨wr.heap.size, 4, none⟩ = false := OR.out.frozen 4
        clear bb d0 d1 d2 d3 d4
        by_cases hr : x'.p.right = true
        · rw [if_pos hr] at hif
          obtain ⟨A5, c5, rfl, o5⟩ := hif
          obtain ⟨n5, hn5⟩ : ∃ n5, x'.p.bytes.length = n5 := ⟨_, rfl⟩
          rw [hn5] at o5
          rw [hn5]
          have HN5 := Lib.hid hn5
          have O5 := Lib.hid o5
          have HR := Lib.hid hr
          clear hn5 o5 hr
          by_cases h3 : x'.p.text.length ≤ 300
          · have g3 : decide ((x'.p.text.length : Int) ≤ 300) = true := decide_eq_true (by omega)
            have hbl : n5 ≤ 313 := by rw [← HN5.out, Nr.bytes_length, Nr.size]; omega
            have h2l : n2 ≤ 12 * 313 := by
              have h4 := Nr.all_le (hs.map Rc.p) (fun y hy => by obtain ⟨z, hz, rfl⟩ := List.mem_map.1 hy; exact (HHS.out z hz).2.2)
              rw [HL2.out, List.length_map, HLM.out] at h4
              omega
            have N5 := Lib.hid (own_nil_c O5.out).1
            have hz4 : w.heap.size ≤ w4.heap.size := by omega
            go_wp2_with (first
              | (refine wpList_load_mid rfl 34 (.tmp 9) rfl wr.heap.size 0 rfl (rcV x'.p.what x'.p.tx x'.p.who x'.p.yes x'.A x'.p.text.length x'.c) _ (OR.out.range 0 5) Try.underlying34 rfl size_rec ?_)
              | (at_builtin; refine wpList_append_rn (f := recK.f) (s := 5) _ rfl (.tmp 36) (.tmp 38) 22 rfl recK_fine.hf recK_fine.hs recK_fine.one w.heap.size 34 i1 _ 40 Try.underlying22 hif1 hy0 hy1 hy2 (by decide) rfl A1 c1 m hs rfl HLM.out (own_below O1.out (bel_alloc (Below.refl _ _) _)) (w4.heap.size + 1) (some ⟨w4.heap.size, 0, none⟩) [x'] 1 1 rfl rfl (Recs.lits recK_fine.hf recK_fine.hs _ _ _ _ _ _ (by first | rfl | (simp; done) | (simp; rfl)) rfl (by omega)) (by simp) (m + 1) rfl (by omega) (by simp; omega) ?_; intro A6 c6 w6 o6 g6 b6; have O6 := Lib.hid o6; have B6 := Lib.hid (((Below.refl w.heap.size w4).alloc hz4 _).trans b6); have h26 := Lib.hid (own_grown2 (own_below O2.out (bel_alloc (Below.refl _ _) _)) g6 (own_ne O2.out O1.out (by decide))); have h36 := Lib.hid (own_grown2 (own_below O3.out (bel_alloc (Below.refl _ _) _)) g6 (own_ne O3.out O1.out (by decide))); have h56 := Lib.hid (own_grown2 (own_below O5.out (bel_alloc (Below.refl _ _) _)) g6 (own_ne O5.out O1.out (by decide))); have hz6 : w.heap.size ≤ w6.heap.size := Nat.le_trans hz4 B6.out.size; clear o6 g6 b6)
              | (at_builtin; refine wpList_append_n (f := byw) _ rfl (.tmp 40) (.tmp 41) 24 rfl (fun _ => rfl) w.heap.size 5 i2 _ _ Try.underlying24 hif2 hx0 rfl hx1 hx2 (by decide) A2 c2 n2 (Nr.all (hs.map Rc.p)) rfl HL2.out h26.out w6.heap.size A5 x'.p.bytes c5 n5 HN5.out rfl (Sq.of_own h56.out) N5.out (n2 + n5) rfl (by omega) hz6 ?_; intro A7 c7 w7 o7 g7 b7; have O7 := Lib.hid o7; have B7 := Lib.hid (B6.out.trans b7); have h17 := Lib.hid (own_grown2 O6.out g7 (own_ne O6.out h26.out (by decide))); have h37 := Lib.hid (own_grown2 h36.out g7 (own_ne h36.out h26.out (by decide))); have hz7 : w.heap.size ≤ w7.heap.size := Nat.le_trans hz4 B7.out.size; clear o7 g7 b7)
              | (at_builtin; refine wpList_append_n (f := intw) _ rfl (.tmp 43) (.tmp 46) 26 rfl (fun _ => rfl) w.heap.size 3 i3 _ _ Try.underlying26 hif3 hw0 rfl hw1 hw2 (by decide) A3 c3 (m + 1) (Nr.ends (hs.map Rc.p)) rfl (by rw [Nr.ends_length, List.length_map, HLM.out]) (own_below h37.out (bel_alloc (Below.refl _ _) _)) (w7.heap.size + 1) (some ⟨w7.heap.size, 0, none⟩) [n2 + n5] 1 1 rfl rfl (Sq.lits _ _ _ _ _ _ _ (by simp [intw]) rfl (by omega)) (by simp) (m + 1 + 1) rfl (by omega) (by simp; omega) ?_; intro A8 c8 w8 o8 g8 b8; have O8 := Lib.hid o8; have B8 := Lib.hid (BE.out.trans (B7.out.trans (((Below.refl w.heap.size w7).alloc hz7 _).trans b8))); have h18 := Lib.hid (own_grown2 (own_below h17.out (bel_alloc (Below.refl _ _) _)) g8 (own_ne h17.out h37.out (by decide))); have h28 := Lib.hid (own_grown2 (own_below O7.out (bel_alloc (Below.refl _ _) _)) g8 (own_ne O7.out h37.out (by decide))); clear o8 g8 b8))
            have hall : Nr.all ((hs ++ [x']).map Rc.p) = Nr.all (hs.map Rc.p) ++ x'.p.bytes := by
              rw [List.map_append, Nr.all_append, List.map_singleton]
              simp [Nr.all]
            go_roundw
            case rel =>
              refine ⟨k + 1, A6, c6, A7, n2 + n5, c7, A8, c8, hs ++ [x'], m + 1, by omega, by omega, rfl, rfl, rfl, by go_num, Lib.hid (by rw [List.length_append, HLM.out]; rfl), Lib.hid (by rw [hall, List.length_append, HL2.out, HN5.out]), h18, Lib.hid (by rw [hall]; exact h28.out), Lib.hid ?_, Lib.hid (fun y hy => ?_), B8⟩
              · have := O8.out
                rw [show (hs ++ [x']).map Rc.p = hs.map Rc.p ++ [x'.p] by simp, Nr.ends_snoc, show hs.map Rc.p ++ [x'.p] = (hs ++ [x']).map Rc.p by simp, hall, List.length_append, HL2.out, HN5.out]
                exact this
              · rcases List.mem_append.1 hy with hy | hy
                · exact HHS.out y hy
                · rw [List.mem_singleton.1 hy]
                  exact ⟨XOK.out, HR.out, h3⟩
            case measure => simp [intOf]; omega
          · have g3 : decide ((x'.p.text.length : Int) ≤ 300) = false := decide_eq_false (by omega)
            go_wp2
            go_roundw
            case rel => exact ⟨k + 1, A1, c1, A2, n2, c2, A3, c3, hs, m, by omega, by omega, rfl, rfl, rfl, by go_num, HLM, HL2, O1, O2, O3, HHS, BE⟩
            case measure => simp [intOf]; omega
        · rw [if_neg hr] at hif
          subst hif
          go_wp2
          go_roundw
          case rel => exact ⟨k + 1, A1, c1, A2, n2, c2, A3, c3, hs, m, by omega, by omega, rfl, rfl, rfl, by go_num, HLM, HL2, O1, O2, O3, HHS, BE⟩
          case measure => simp [intOf]; omega
      · obtain rfl : k = n := by omega
        go_wp2
        go_ret3
        exact ⟨A1, c1, A2, n2, c2, A3, c3, hs, m, rfl, HLM.out, by omega, HL2.out, O1.out, O2.out, O3.out, HHS.out, BE.out⟩
end Go.Proofs.Ytbokggilfepdhaa
