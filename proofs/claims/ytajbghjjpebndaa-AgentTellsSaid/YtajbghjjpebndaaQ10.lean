/- The walk of saucierlow.Fit: blocks that fit, out of any. The walk of StageOne. A world in which one block alone may be another one; a row of words whose elements are written. -/
import Derived.Test.YtajbghjjpebndaaQ08
import Derived.Test.YtajbghjjpebndaaQ04
namespace Go.Proofs.Ytajbghjjpebndaa
set_option maxRecDepth 100000
open Go.RowKit
set_option linter.unusedVariables false
attribute [local go_sem] Later.cell Later.frozen setCell_twice
namespace Bk
def fitP (p : Pr) : Pr := (p.1 % 64, p.2.take (min p.2.length (min 14 (64 - p.1 % 64).toNat)))
theorem fitP_fits (p : Pr) : fits (fitP p).1 (fitP p).2.length = true := by
  rw [fits_iff]
  unfold fitP
  simp only [List.length_take]
  omega
theorem fitP_id {p : Pr} (h : fits p.1 p.2.length = true) : fitP p = p := by
  have := fits_iff.1 h
  obtain ⟨a, ws⟩ := p
  simp only at this
  unfold fitP
  simp only
  rw [show a % 64 = a by omega, List.take_of_length_le (by omega)]
end Bk
theorem lit2g (w : World) (x y : Value) (t : TypeId) (g : Nat) (hg : w.heap.size = g) : ∀ (j : Nat) (u : Value), [x, y][j]? = some u → (w.alloc (.cells #[x, y] t)).cell? ((⟨g, 0, none⟩ : Addr).add j) = some u := by
  subst hg
  exact lit2 w x y t
theorem run_min2 {P : Program} (w : World) (ts : Array TypeId) (t : TypeId) (x y n : Nat) (h : n = min x y) :
    (Builtin.min_ ts t #[.int .i64 (x : Int), .int .i64 (y : Int)]).run P w = .ok (.int .i64 (n : Int)) w := by
  subst h
  simp [Builtin.min_, Builtin.min2]
  repeat split
  all_goals omega
theorem run_min3 {P : Program} (w : World) (ts : Array TypeId) (t : TypeId) (x : Nat) (a : Int) (n : Nat) (h : (n : Int) = min (x : Int) (min 14 (64 - a))) :
    (Builtin.min_ ts t #[.int .i64 (x : Int), .int .i64 14, .int .i64 (64 - a)]).run P w = .ok (.int .i64 (n : Int)) w := by
  rw [h]
  simp [Builtin.min_, Builtin.min2]
  repeat split
  all_goals omega
theorem own_len {w : World} {B e n c : Nat} {A : Option Addr} {l : List Nat} (hn : l.length = n) (h : w.ownsRow B e 1 (.slice A n c) n (l.map u16w)) : w.ownsRow B e 1 (.slice A l.length c) l.length (l.map u16w) := by subst hn; exact h
set_option maxRecDepth 100000 in
set_option maxHeartbeats 1000000 in
theorem fit_new (A0 : Option Addr) (l : List Blk) (c0 : Nat) (most : Nat) (w : World) (h : Blks w w.heap.size A0 l) (hlc : l.length ≤ c0) (hc0 : c0 ≤ 9223372036854775807) (hmost : most ≤ 40) :
    Calls Try.prog 36 #[.slice A0 l.length c0, .int .i64 (most : Int)] w (BlocksQ w ((prs (l.take most)).map Bk.fitP)) := by
  obtain ⟨i0, hif, hz0, hz1, hz2⟩ := info_parts info_block
  obtain ⟨i1, hif1, hy0, hy1, hy2⟩ := info_parts info_w16
  obtain ⟨N, hN⟩ : ∃ N, N = min l.length most := ⟨_, rfl⟩
  have hmin : ∀ w, (Builtin.min_ #[3, 3] 3 #[.int .i64 (l.length : Int), .int .i64 (most : Int)]).run Try.prog w = .ok (.int .i64 (N : Int)) w := fun w => run_min2 w _ _ _ _ _ hN
  have hN1 : N ≤ l.length := by omega
  have hN2 : N ≤ 40 := by omega
  have HTK := Lib.hid (show l.take most = l.take N by rw [hN]; simp [List.take_eq_take_iff, Nat.min_comm])
  have hNI : (N : Int) ≤ (l.length : Int) := by omega
  have hNc : (N : Int) ≤ (c0 : Int) := by omega
  clear hN
  go_enter Try.func36, Try.ntmps36
  go_wp2
  clear hmin
  go_loopw [5, 16, 7, 8] (fun v i _ _ wr => ∃ k n : Nat, ∃ A c bl, k ≤ N ∧ i = .int .i64 k ∧ v = .slice A n c ∧ n = (bl : List Blk).length ∧ n ≤ k ∧ prs bl = (prs (l.take k)).map Bk.fitP ∧ (∀ b ∈ bl, b.Ok wr wr.heap.size ∧ b.Off (Value.slice A n c).ownBlock ∧ b.In w.heap.size wr.heap.size ∧ b.Own w.heap.size wr) ∧ wr.ownsRow w.heap.size 30 2 (.slice A n c) n (bl.flatMap Blk.cells) ∧ Below w.heap.size w wr)
    (fun _ i _ _ _ => N - (intOf i).toNat)
  case atStart => exact ⟨0, 0, none, 0, [], by omega, rfl, rfl, rfl, by omega, rfl, by simp, World.ownsRow_nil _ _ _ _, Below.refl _ _⟩
  case round =>
    obtain ⟨k, n, A, c, bl, hk, rfl, rfl, hn, hnk, hprs, hok, hown, hbe⟩ := hrel
    by_cases hlt : k < N
    · obtain ⟨g, o, x, rfl, hg, hx, hxo, hx0, hx1⟩ := (h.to hbe).at_ (k := k) (by omega)
      have hltI : (k : Int) < (N : Int) := by omega
      obtain ⟨aa, haa⟩ : ∃ aa, x.a % 64 = aa := ⟨_, rfl⟩
      have ha0 : 0 ≤ aa := by omega
      have ha1 : aa < 64 := by omega
      obtain ⟨q, hq⟩ : ∃ q : Nat, (q : Int) = min (x.ws.length : Int) (min 14 (64 - aa)) := ⟨(min (x.ws.length : Int) (min 14 (64 - aa))).toNat, by omega⟩
      have hm3 : ∀ w, (Builtin.min_ #[3, 3, 3] 3 #[.int .i64 (x.ws.length : Int), .int .i64 14, .int .i64 (64 - aa)]).run Try.prog w = .ok (.int .i64 (q : Int)) w := fun w => run_min3 w _ _ _ _ _ hq
      have hq1 : q ≤ x.ws.length := by omega
      have hq2 : q ≤ 14 := by omega
      have hq3 : q ≤ x.c := Nat.le_trans hq1 hxo.ln
      have HF := Lib.hid (show Bk.fitP x.pr = (aa, x.ws.take q) by unfold Bk.fitP; simp only; rw [haa, show min x.ws.length (min 14 (64 - aa).toNat) = q by omega])
      have hlow : -9223372036854775808 ≤ x.a := hxo.lo
      have hhi : x.a ≤ 9223372036854775807 := hxo.hi
      have HLQ := Lib.hid (show ([] ++ x.ws.take q : List Nat).length = q by rw [List.nil_append, List.length_take]; omega)
      have HTL := Lib.hid (show (x.ws.take q).length = q by rw [List.length_take]; omega)
      have HU := Lib.hid hxo.u
      have HSQ := Lib.hid (((hxo.sq.take q).below (show Below wr.heap.size wr ((wr.alloc (.cells #[.int .i64 x.a, .slice x.A x.ws.length x.c] 30)).alloc (.cells #[] 24)) from bel_alloc (bel_alloc (Below.refl _ _) _) _)))
      have he := own_empty (wr.alloc (.cells #[.int .i64 x.a, .slice x.A x.ws.length x.c] 30)) 24 .u16
      simp only [World.size_alloc, List.length_nil] at he
      have HE := Lib.hid he
      have hnl := hxo.nl
      have hws : x.A = none → x.ws = [] := fun hA => by
        rcases Nat.eq_zero_or_pos x.ws.length with h0 | h0
        · exact List.eq_nil_of_length_eq_zero h0
        · obtain ⟨b', o', hA', _⟩ := hxo.sq h0
          rw [hA] at hA'; cases hA'
      have HX := Lib.hid hx
      have HK := Lib.hid hok
      have HP := Lib.hid hprs
      have HN := Lib.hid hn
      have HQ := Lib.hid hq
      have HAA := Lib.hid haa
      obtain ⟨r, hr⟩ : ∃ r, x.a.tmod 64 = r := ⟨_, rfl⟩
      have hrA : (r < 0 ∧ r + 64 = aa) ∨ (¬ r < 0 ∧ r = aa) := by
        have h2 := Int.mul_tdiv_add_tmod x.a 64
        have h3 := Int.lt_tmod_of_pos x.a (show (0 : Int) < 64 by omega)
        have h4 := Int.tmod_lt_of_pos x.a (show (0 : Int) < 64 by omega)
        rw [hr] at h2 h3 h4
        generalize x.a.tdiv 64 = z at h2
        omega
      obtain ⟨xa, xws, xA, xc⟩ := x
      simp only at hx0 hx1 hm3 hq1 hq3 HF hlow hhi HLQ HTL HU HSQ HE hnl hws hr
      clear hx hok hprs hn hq haa hxo he
      cases xA with
      | none =>
        obtain rfl : xws = [] := hws rfl
        obtain rfl : xc = 0 := hnl rfl
        obtain rfl : q = 0 := by simp at hq1; omega
        have hnl : (none : Option Addr) = none → 0 = 0 := fun _ => rfl
        clear hws
        simp only [List.length_nil] at hx0 hx1 hm3 HSQ HE
        rcases hrA with ⟨hr0, hra⟩ | ⟨hr0, hra⟩
        · obtain ⟨w5, hw5⟩ : ∃ w5, w5 = (wr.alloc (.cells #[.int .i64 xa, .slice none 0 0] 30)).alloc (.cells #[] 24) := ⟨_, rfl⟩
          obtain ⟨A5, hA5⟩ : ∃ A5 : Option Addr, A5 = some ⟨wr.heap.size + 1, 0, none⟩ := ⟨_, rfl⟩
          obtain ⟨c5, hc5⟩ : ∃ c5, c5 = 0 := ⟨_, rfl⟩
          have o5 : w5.ownsRow (wr.heap.size + 1) 24 1 (.slice A5 0 c5) 0 ((([] : List Nat).take 0).map u16w) := by rw [hw5, hA5, hc5]; exact HE.out
          have hz5 : w5.heap.size = wr.heap.size + 1 + 1 := by rw [hw5]; simp
          have hbA : Below wr.heap.size wr w5 := by rw [hw5]; exact bel_alloc (bel_alloc (Below.refl _ _) _) _
          have hown5 := own_below hown hbA
          have HW5 := Lib.hid hw5
          have HZ5 := Lib.hid hz5
          have HA5 := Lib.hid hA5
          have HC5 := Lib.hid hc5
          have HO5 := Lib.hid o5
          clear hw5 hz5 hA5 hc5 o5
          go_wp2_with (at_builtin; rw [← HW5.out]; refine wpList_append_own_at _ rfl (.tmp 27) (.tmp 41) 52 rfl w.heap.size 30 i0 _ 2 32 Try.underlying52 hif hz0 hz1 hz2 rfl (Nat.zero_lt_two) (.slice A n c) n (bl.flatMap Blk.cells) rfl (hown5.alloc _) ⟨wr.heap.size + 1 + 1, 0, none⟩ 1 1 [.int .i64 aa, .slice (some ⟨wr.heap.size + 1, 0, none⟩) 0 0] rfl rfl ?_ ?_ ?_ ?_ ?_ ?_; exact lit2g w5 _ _ _ _ HZ5.out; exact one2 _ _ _ _; (unfold maxLen; omega); omega; (have h1 := hbe.size; have h2 := hbA.size; simp; omega); intro v3 w3 hown3 hg3 _ hat3; have HG3 := Lib.hid hg3; have HAT := Lib.hid hat3; clear hg3 hat3)
          rw [← HA5.out] at hown3
          obtain ⟨A3, c3, rfl, hA3⟩ := own_form2 hown3
          have o5 := HO5.out
          go_roundw
          case rel =>
            have hg3 := HG3.out
            have hsz3 := hg3.size
            have hz5 := hbA.size
            have hzr := hbe.size
            simp at hsz3
            have o5' : w5.ownsRow (wr.heap.size + 1) 24 1 (.slice A5 0 c5) 0 ((([] : List Nat).take 0).map u16w) := by simpa using o5
            have hq' := HTL.out
            have hob : (Blk.mk aa (([] : List Nat).take 0) A5 c5).Ok w5 w5.heap.size := Blk.Ok.of_own hq' o5' (fun z hz => HU.out z (List.mem_of_mem_take hz)) (by omega) (by omega)
            refine ⟨k + 1, n + 1, A3, c3, bl ++ [⟨aa, ([] : List Nat).take 0, A5, c5⟩], by omega, by go_num, rfl, by have := HN.out; simp; omega, by omega, ?_, fun y hy => ?_, ?_, ?_⟩
            · rw [List.take_add_one, HX.out]
              have hp := HP.out
              simp only [prs, List.map_append, Option.toList, List.map_cons, List.map_nil] at hp ⊢
              rw [hp, HF.out]
            · have key : y.Ok w5 w5.heap.size ∧ y.Off (Value.slice A n c).ownBlock ∧ y.In w.heap.size w5.heap.size ∧ y.Own w.heap.size w5 := by
                rcases List.mem_append.1 hy with hy | hy
                · exact ⟨(HK.out y hy).1.to hbA, (HK.out y hy).2.1, fun p hp => ⟨((HK.out y hy).2.2.1 p hp).1, Nat.lt_of_lt_of_le ((HK.out y hy).2.2.1 p hp).2 hbA.size⟩, own_below (HK.out y hy).2.2.2 hbA⟩
                · obtain rfl : y = _ := List.mem_singleton.1 hy
                  refine ⟨hob, fun p hp e => ?_, fun p hp => ⟨by have := (o5'.lt p.block (by simp only at hp; rw [hp]; rfl)).1; omega, (o5'.lt p.block (by simp only at hp; rw [hp]; rfl)).2⟩, own_more (own_len hq' o5') (by omega)⟩
                  have h1 := (hown.lt _ e.symm).2
                  have h2 := (o5'.lt p.block (by simp only at hp; rw [hp]; rfl)).1
                  omega
              obtain ⟨y1, y2, y3, y4⟩ := key
              refine ⟨(y1.to (bel_alloc (Below.refl _ _) _)).grown hg3 y2, fun p hp e => ?_, fun p hp => ?_, own_grown (own_below y4 (bel_alloc (Below.refl _ _) _)) hg3 y2⟩
              · have h3 := y3 p hp
                rcases HAT.out with h | h
                · rw [h] at e
                  exact y2 p hp e
                · rw [h] at e
                  have := Option.some.inj e
                  simp at this
                  omega
              · have h3 := y3 p hp
                omega
            · have h := hown3
              rw [show bl.flatMap Blk.cells ++ [Value.int .i64 aa, .slice A5 0 0] = (bl ++ [Blk.mk aa (([] : List Nat).take 0) A5 c5]).flatMap Blk.cells by simp [HC5.out]] at h
              exact h
            · exact (bel_alloc (hbe.trans (hbA.mono hzr)) _).grown hg3 (by simp; omega) (fun g hg => (hown5.lt g hg).1)
          case measure => simp [intOf]; omega
        · obtain rfl : aa = r := hra.symm
          have hr2 : xa % 64 = aa := HAA.out
          obtain ⟨w5, hw5⟩ : ∃ w5, w5 = (wr.alloc (.cells #[.int .i64 xa, .slice none 0 0] 30)).alloc (.cells #[] 24) := ⟨_, rfl⟩
          obtain ⟨A5, hA5⟩ : ∃ A5 : Option Addr, A5 = some ⟨wr.heap.size + 1, 0, none⟩ := ⟨_, rfl⟩
          obtain ⟨c5, hc5⟩ : ∃ c5, c5 = 0 := ⟨_, rfl⟩
          have o5 : w5.ownsRow (wr.heap.size + 1) 24 1 (.slice A5 0 c5) 0 ((([] : List Nat).take 0).map u16w) := by rw [hw5, hA5, hc5]; exact HE.out
          have hz5 : w5.heap.size = wr.heap.size + 1 + 1 := by rw [hw5]; simp
          have hbA : Below wr.heap.size wr w5 := by rw [hw5]; exact bel_alloc (bel_alloc (Below.refl _ _) _) _
          have hown5 := own_below hown hbA
          have HW5 := Lib.hid hw5
          have HZ5 := Lib.hid hz5
          have HA5 := Lib.hid hA5
          have HC5 := Lib.hid hc5
          have HO5 := Lib.hid o5
          clear hw5 hz5 hA5 hc5 o5
          go_wp2_with (at_builtin; rw [← HW5.out]; refine wpList_append_own_at _ rfl (.tmp 27) (.tmp 41) 52 rfl w.heap.size 30 i0 _ 2 32 Try.underlying52 hif hz0 hz1 hz2 rfl (Nat.zero_lt_two) (.slice A n c) n (bl.flatMap Blk.cells) rfl (hown5.alloc _) ⟨wr.heap.size + 1 + 1, 0, none⟩ 1 1 [.int .i64 aa, .slice (some ⟨wr.heap.size + 1, 0, none⟩) 0 0] rfl rfl ?_ ?_ ?_ ?_ ?_ ?_; exact lit2g w5 _ _ _ _ HZ5.out; exact one2 _ _ _ _; (unfold maxLen; omega); omega; (have h1 := hbe.size; have h2 := hbA.size; simp; omega); intro v3 w3 hown3 hg3 _ hat3; have HG3 := Lib.hid hg3; have HAT := Lib.hid hat3; clear hg3 hat3)
          rw [← HA5.out] at hown3
          obtain ⟨A3, c3, rfl, hA3⟩ := own_form2 hown3
          have o5 := HO5.out
          go_roundw
          case rel =>
            have hg3 := HG3.out
            have hsz3 := hg3.size
            have hz5 := hbA.size
            have hzr := hbe.size
            simp at hsz3
            have o5' : w5.ownsRow (wr.heap.size + 1) 24 1 (.slice A5 0 c5) 0 ((([] : List Nat).take 0).map u16w) := by simpa using o5
            have hq' := HTL.out
            have hob : (Blk.mk aa (([] : List Nat).take 0) A5 c5).Ok w5 w5.heap.size := Blk.Ok.of_own hq' o5' (fun z hz => HU.out z (List.mem_of_mem_take hz)) (by omega) (by omega)
            refine ⟨k + 1, n + 1, A3, c3, bl ++ [⟨aa, ([] : List Nat).take 0, A5, c5⟩], by omega, by go_num, rfl, by have := HN.out; simp; omega, by omega, ?_, fun y hy => ?_, ?_, ?_⟩
            · rw [List.take_add_one, HX.out]
              have hp := HP.out
              simp only [prs, List.map_append, Option.toList, List.map_cons, List.map_nil] at hp ⊢
              rw [hp, HF.out]
            · have key : y.Ok w5 w5.heap.size ∧ y.Off (Value.slice A n c).ownBlock ∧ y.In w.heap.size w5.heap.size ∧ y.Own w.heap.size w5 := by
                rcases List.mem_append.1 hy with hy | hy
                · exact ⟨(HK.out y hy).1.to hbA, (HK.out y hy).2.1, fun p hp => ⟨((HK.out y hy).2.2.1 p hp).1, Nat.lt_of_lt_of_le ((HK.out y hy).2.2.1 p hp).2 hbA.size⟩, own_below (HK.out y hy).2.2.2 hbA⟩
                · obtain rfl : y = _ := List.mem_singleton.1 hy
                  refine ⟨hob, fun p hp e => ?_, fun p hp => ⟨by have := (o5'.lt p.block (by simp only at hp; rw [hp]; rfl)).1; omega, (o5'.lt p.block (by simp only at hp; rw [hp]; rfl)).2⟩, own_more (own_len hq' o5') (by omega)⟩
                  have h1 := (hown.lt _ e.symm).2
                  have h2 := (o5'.lt p.block (by simp only at hp; rw [hp]; rfl)).1
                  omega
              obtain ⟨y1, y2, y3, y4⟩ := key
              refine ⟨(y1.to (bel_alloc (Below.refl _ _) _)).grown hg3 y2, fun p hp e => ?_, fun p hp => ?_, own_grown (own_below y4 (bel_alloc (Below.refl _ _) _)) hg3 y2⟩
              · have h3 := y3 p hp
                rcases HAT.out with h | h
                · rw [h] at e
                  exact y2 p hp e
                · rw [h] at e
                  have := Option.some.inj e
                  simp at this
                  omega
              · have h3 := y3 p hp
                omega
            · have h := hown3
              rw [show bl.flatMap Blk.cells ++ [Value.int .i64 aa, .slice A5 0 0] = (bl ++ [Blk.mk aa (([] : List Nat).take 0) A5 c5]).flatMap Blk.cells by simp [HC5.out]] at h
              exact h
            · exact (bel_alloc (hbe.trans (hbA.mono hzr)) _).grown hg3 (by simp; omega) (fun g hg => (hown5.lt g hg).1)
          case measure => simp [intOf]; omega
      | some xp =>
        clear hws
        rcases hrA with ⟨hr0, hra⟩ | ⟨hr0, hra⟩
        · go_wp2_with (first | (at_builtin; refine wpList_append_sq (f := u16w) _ rfl (.tmp 29) (.tmp 38) 22 rfl (fun _ => rfl) (wr.heap.size + 1) 24 i1 _ _ Try.underlying22 hif1 hy0 rfl hy1 hy2 (by decide) (.slice (some ⟨wr.heap.size + 1, 0, none⟩) 0 0) [] rfl HE.out wr.heap.size (some xp) (xws.take q) xc q HTL.out rfl HSQ.out hnl (by simp; omega) (by simp) ?_; intro A5 c5 w5 o5 hg5 hb5; have hbA : Below wr.heap.size wr w5 := (bel_alloc (bel_alloc (Below.refl _ _) _) _).trans (hb5.mono (by omega)); have hown5 := own_below hown hbA; clear hg5 hb5; rw [HLQ.out] at o5 ⊢) | (at_builtin; refine wpList_append_own_at _ rfl (.tmp 27) (.tmp 41) 52 rfl w.heap.size 30 i0 _ 2 32 Try.underlying52 hif hz0 hz1 hz2 rfl (Nat.zero_lt_two) (.slice A n c) n (bl.flatMap Blk.cells) rfl (hown5.alloc _) ⟨w5.heap.size, 0, none⟩ 1 1 [.int .i64 aa, .slice A5 q c5] rfl rfl ?_ ?_ ?_ ?_ ?_ ?_; exact lit2 w5 _ _ _; exact one2 _ _ _ _; (unfold maxLen; omega); omega; (have h1 := hbe.size; have h2 := hbA.size; simp; omega); intro v3 w3 hown3 hg3 _ hat3; have HG3 := Lib.hid hg3; have HAT := Lib.hid hat3; clear hg3 hat3))
          obtain ⟨A3, c3, rfl, hA3⟩ := own_form2 hown3
          go_roundw
          case rel =>
            have hg3 := HG3.out
            have hsz3 := hg3.size
            have hz5 := hbA.size
            have hzr := hbe.size
            simp at hsz3
            have o5' : w5.ownsRow (wr.heap.size + 1) 24 1 (.slice A5 q c5) q ((xws.take q).map u16w) := by simpa using o5
            have hq' := HTL.out
            have hob : (Blk.mk aa (xws.take q) A5 c5).Ok w5 w5.heap.size := Blk.Ok.of_own hq' o5' (fun z hz => HU.out z (List.mem_of_mem_take hz)) (by omega) (by omega)
            refine ⟨k + 1, n + 1, A3, c3, bl ++ [⟨aa, xws.take q, A5, c5⟩], by omega, by go_num, rfl, by have := HN.out; simp; omega, by omega, ?_, fun y hy => ?_, ?_, ?_⟩
            · rw [List.take_add_one, HX.out]
              have hp := HP.out
              simp only [prs, List.map_append, Option.toList, List.map_cons, List.map_nil] at hp ⊢
              rw [hp, HF.out]
            · have key : y.Ok w5 w5.heap.size ∧ y.Off (Value.slice A n c).ownBlock ∧ y.In w.heap.size w5.heap.size ∧ y.Own w.heap.size w5 := by
                rcases List.mem_append.1 hy with hy | hy
                · exact ⟨(HK.out y hy).1.to hbA, (HK.out y hy).2.1, fun p hp => ⟨((HK.out y hy).2.2.1 p hp).1, Nat.lt_of_lt_of_le ((HK.out y hy).2.2.1 p hp).2 hbA.size⟩, own_below (HK.out y hy).2.2.2 hbA⟩
                · obtain rfl : y = _ := List.mem_singleton.1 hy
                  refine ⟨hob, fun p hp e => ?_, fun p hp => ⟨by have := (o5'.lt p.block (by simp only at hp; rw [hp]; rfl)).1; omega, (o5'.lt p.block (by simp only at hp; rw [hp]; rfl)).2⟩, own_more (own_len hq' o5') (by omega)⟩
                  have h1 := (hown.lt _ e.symm).2
                  have h2 := (o5'.lt p.block (by simp only at hp; rw [hp]; rfl)).1
                  omega
              obtain ⟨y1, y2, y3, y4⟩ := key
              refine ⟨(y1.to (bel_alloc (Below.refl _ _) _)).grown hg3 y2, fun p hp e => ?_, fun p hp => ?_, own_grown (own_below y4 (bel_alloc (Below.refl _ _) _)) hg3 y2⟩
              · have h3 := y3 p hp
                rcases HAT.out with h | h
                · rw [h] at e
                  exact y2 p hp e
                · rw [h] at e
                  have := Option.some.inj e
                  simp at this
                  omega
              · have h3 := y3 p hp
                omega
            · have h := hown3
              rw [show bl.flatMap Blk.cells ++ [Value.int .i64 aa, .slice A5 q c5] = (bl ++ [Blk.mk aa (xws.take q) A5 c5]).flatMap Blk.cells by simp [hq']] at h
              exact h
            · exact (bel_alloc (hbe.trans (hbA.mono hzr)) _).grown hg3 (by simp; omega) (fun g hg => (hown5.lt g hg).1)
          case measure => simp [intOf]; omega
        · obtain rfl : aa = r := hra.symm
          have hr2 : xa % 64 = aa := HAA.out
          go_wp2_with (first | (at_builtin; refine wpList_append_sq (f := u16w) _ rfl (.tmp 29) (.tmp 38) 22 rfl (fun _ => rfl) (wr.heap.size + 1) 24 i1 _ _ Try.underlying22 hif1 hy0 rfl hy1 hy2 (by decide) (.slice (some ⟨wr.heap.size + 1, 0, none⟩) 0 0) [] rfl HE.out wr.heap.size (some xp) (xws.take q) xc q HTL.out rfl HSQ.out hnl (by simp; omega) (by simp) ?_; intro A5 c5 w5 o5 hg5 hb5; have hbA : Below wr.heap.size wr w5 := (bel_alloc (bel_alloc (Below.refl _ _) _) _).trans (hb5.mono (by omega)); have hown5 := own_below hown hbA; clear hg5 hb5; rw [HLQ.out] at o5 ⊢) | (at_builtin; refine wpList_append_own_at _ rfl (.tmp 27) (.tmp 41) 52 rfl w.heap.size 30 i0 _ 2 32 Try.underlying52 hif hz0 hz1 hz2 rfl (Nat.zero_lt_two) (.slice A n c) n (bl.flatMap Blk.cells) rfl (hown5.alloc _) ⟨w5.heap.size, 0, none⟩ 1 1 [.int .i64 aa, .slice A5 q c5] rfl rfl ?_ ?_ ?_ ?_ ?_ ?_; exact lit2 w5 _ _ _; exact one2 _ _ _ _; (unfold maxLen; omega); omega; (have h1 := hbe.size; have h2 := hbA.size; simp; omega); intro v3 w3 hown3 hg3 _ hat3; have HG3 := Lib.hid hg3; have HAT := Lib.hid hat3; clear hg3 hat3))
          obtain ⟨A3, c3, rfl, hA3⟩ := own_form2 hown3
          go_roundw
          case rel =>
            have hg3 := HG3.out
            have hsz3 := hg3.size
            have hz5 := hbA.size
            have hzr := hbe.size
            simp at hsz3
            have o5' : w5.ownsRow (wr.heap.size + 1) 24 1 (.slice A5 q c5) q ((xws.take q).map u16w) := by simpa using o5
            have hq' := HTL.out
            have hob : (Blk.mk aa (xws.take q) A5 c5).Ok w5 w5.heap.size := Blk.Ok.of_own hq' o5' (fun z hz => HU.out z (List.mem_of_mem_take hz)) (by omega) (by omega)
            refine ⟨k + 1, n + 1, A3, c3, bl ++ [⟨aa, xws.take q, A5, c5⟩], by omega, by go_num, rfl, by have := HN.out; simp; omega, by omega, ?_, fun y hy => ?_, ?_, ?_⟩
            · rw [List.take_add_one, HX.out]
              have hp := HP.out
              simp only [prs, List.map_append, Option.toList, List.map_cons, List.map_nil] at hp ⊢
              rw [hp, HF.out]
            · have key : y.Ok w5 w5.heap.size ∧ y.Off (Value.slice A n c).ownBlock ∧ y.In w.heap.size w5.heap.size ∧ y.Own w.heap.size w5 := by
                rcases List.mem_append.1 hy with hy | hy
                · exact ⟨(HK.out y hy).1.to hbA, (HK.out y hy).2.1, fun p hp => ⟨((HK.out y hy).2.2.1 p hp).1, Nat.lt_of_lt_of_le ((HK.out y hy).2.2.1 p hp).2 hbA.size⟩, own_below (HK.out y hy).2.2.2 hbA⟩
                · obtain rfl : y = _ := List.mem_singleton.1 hy
                  refine ⟨hob, fun p hp e => ?_, fun p hp => ⟨by have := (o5'.lt p.block (by simp only at hp; rw [hp]; rfl)).1; omega, (o5'.lt p.block (by simp only at hp; rw [hp]; rfl)).2⟩, own_more (own_len hq' o5') (by omega)⟩
                  have h1 := (hown.lt _ e.symm).2
                  have h2 := (o5'.lt p.block (by simp only at hp; rw [hp]; rfl)).1
                  omega
              obtain ⟨y1, y2, y3, y4⟩ := key
              refine ⟨(y1.to (bel_alloc (Below.refl _ _) _)).grown hg3 y2, fun p hp e => ?_, fun p hp => ?_, own_grown (own_below y4 (bel_alloc (Below.refl _ _) _)) hg3 y2⟩
              · have h3 := y3 p hp
                rcases HAT.out with h | h
                · rw [h] at e
                  exact y2 p hp e
                · rw [h] at e
                  have := Option.some.inj e
                  simp at this
                  omega
              · have h3 := y3 p hp
                omega
            · have h := hown3
              rw [show bl.flatMap Blk.cells ++ [Value.int .i64 aa, .slice A5 q c5] = (bl ++ [Blk.mk aa (xws.take q) A5 c5]).flatMap Blk.cells by simp [hq']] at h
              exact h
            · exact (bel_alloc (hbe.trans (hbA.mono hzr)) _).grown hg3 (by simp; omega) (fun g hg => (hown5.lt g hg).1)
          case measure => simp [intOf]; omega
    · obtain rfl : k = N := by omega
      have HP := Lib.hid hprs
      have HN := Lib.hid hn
      have HK := Lib.hid hok
      clear hprs hn hok
      go_wp2
      go_ret
      obtain ⟨A', c', hv, h1, h2, h3⟩ := own_form2 hown
      obtain ⟨rfl, rfl⟩ : A = A' ∧ c = c' := by simpa using hv
      refine ⟨A, c, bl, ?_, by rw [HP.out, HTK.out], ⟨Recs.of_own2 HN.out hown, fun b hb => (HK.out b hb).1⟩, by rw [← HN.out]; exact h2, h3, h1, HN.out ▸ hown, fun b hb => (HK.out b hb).2.2, hbe⟩
      rw [← HN.out]
      rfl
theorem fit_any (A0 : Option Addr) (l : List Blk) (c0 : Nat) (most : Nat) (w : World) (h : Blks w w.heap.size A0 l) (hlc : l.length ≤ c0) (hc0 : c0 ≤ 9223372036854775807) (hmost : most ≤ 40) :
    Calls Try.prog 36 #[.slice A0 l.length c0, .int .i64 (most : Int)] w (BlocksP w ((prs (l.take most)).map Bk.fitP)) := (fit_new A0 l c0 most w h hlc hc0 hmost).mono fun _ _ h => h.weak
end Go.Proofs.Ytajbghjjpebndaa
namespace Go.Proofs.Ytajbghjjpebndaa
set_option maxRecDepth 100000
open Go.RowKit
set_option linter.unusedVariables false
attribute [local go_sem] Later.cell Later.frozen setCell_twice
theorem Blks.one {w : World} {b : Blk} {t : TypeId} {g : Nat} (hg : g = w.heap.size) (h : b.Ok w w.heap.size) : Blks (w.alloc (.cells #[.int .i64 b.a, .slice b.A b.ws.length b.c] t)) (w.alloc (.cells #[.int .i64 b.a, .slice b.A b.ws.length b.c] t)).heap.size (some ⟨g, 0, none⟩) [b] := by
  subst hg
  refine ⟨fun _ => ⟨w.heap.size, 0, rfl, by simp, fun j x hx i v hv => ?_⟩, fun x hx => ?_⟩
  · have hj : j = 0 := by
      rcases Nat.lt_or_ge j 1 with h1 | h1
      · omega
      · rw [List.getElem?_eq_none (by simpa using h1)] at hx; cases hx
    subst hj
    obtain rfl : b = x := by simpa using hx
    rw [cell_of_row _ _ _ _ _ _ (heap_alloc_new w _)]
    simpa using hv
  · obtain rfl : x = b := by simpa using hx
    exact h.to (bel_alloc (Below.refl _ _) _)
theorem words_ok {o t : Nat} {k a : Int} {ws : List Nat} (h : (Stg.words o t k a ws).2 = 0) : 0 ≤ k ∧ k ≤ 7 ∧ Bk.fits a ws.length = true ∧ (Stg.words o t k a ws).1 = Stg.tagged o t k.toNat a ws := by
  unfold Stg.words at h ⊢
  split at h
  · exact absurd h (by decide)
  rename_i h1
  split at h
  · rename_i h2
    rw [if_neg h1, if_pos h2]
    exact ⟨by omega, by omega, h2, rfl⟩
  · exact absurd h (by decide)
theorem words_same {o p t u : Nat} {n m : Int} {x y : Bk.Pr} (h1 : (Stg.words o t n x.1 x.2).2 = 0) (h2 : (Stg.words p u m y.1 y.2).2 = 0) :
    (Stg.words o t n x.1 x.2).1 = (Stg.words p u m y.1 y.2).1 ↔ o = p ∧ t = u ∧ n = m ∧ x = y := by
  obtain ⟨a1, a2, a3, a4⟩ := words_ok h1
  obtain ⟨b1, b2, b3, b4⟩ := words_ok h2
  rw [a4, b4, Stg.tagged_inj a3 b3 (by omega) (by omega)]
  obtain ⟨xa, xw⟩ := x
  obtain ⟨ya, yw⟩ := y
  simp only [Prod.mk.injEq]
  constructor
  · rintro ⟨h1, h2, h3, h4, h5⟩; exact ⟨h1, h2, by omega, h4, h5⟩
  · rintro ⟨h1, h2, h3, h4, h5⟩; exact ⟨h1, h2, by omega, h4, h5⟩
theorem Blk.Ok.lim {w : World} {B : Nat} {b : Blk} (h : b.Ok w B) : b.ws.length ≤ 9223372036854775807 := Nat.le_trans h.ln h.cap
end Go.Proofs.Ytajbghjjpebndaa
namespace Go.Proofs.Ytajbghjjpebndaa
set_option maxRecDepth 100000
open Go.RowKit
set_option linter.unusedVariables false
structure Only (g : Nat) (w w' : World) : Prop where
  os : w'.os = w.os
  tape : w'.tape = w.tape
  output : w'.output = w.output
  size : w'.heap.size = w.heap.size
  block : ∀ k, k ≠ g → w'.heap[k]? = w.heap[k]?
theorem Only.refl (g : Nat) (w : World) : Only g w w := ⟨rfl, rfl, rfl, rfl, fun _ _ => rfl⟩
theorem Only.set {g i : Nat} {w w' : World} (h : Only g w w') (u : Value) : Only g w (w'.setCell ⟨g, i, none⟩ u) :=
  ⟨h.os, h.tape, h.output, by simp [World.setCell, h.size], fun k hk => (Below.heap_setCell _ _ _ _ hk).trans (h.block k hk)⟩
theorem Only.drew {g : Nat} {w w' : World} (h : Only g w w') : Only g w w'.drew := ⟨h.os, h.tape, h.output, h.size, h.block⟩
theorem Only.cell {g : Nat} {w w' : World} (h : Only g w w') {p : Addr} (hp : p.block ≠ g) : w'.cell? p = w.cell? p := World.cell?_of_block (h.block p.block hp)
theorem Only.frozen {g : Nat} {w w' : World} (h : Only g w w') {p : Addr} (hp : p.block ≠ g) : w'.frozen? p = w.frozen? p := World.frozen?_of_block (h.block p.block hp)
theorem Only.below {g B : Nat} {w w' : World} (h : Only g w w') (hB : B ≤ g) : Below B w w' := ⟨h.os, h.tape, h.output, by rw [h.size]; omega, fun k hk => h.block k (by omega)⟩
theorem Only.own {g B e n : Nat} {w w' : World} {v : Value} {xs : List Value} (h : Only g w w') (ho : w.ownsRow B e 1 v n xs) (hB : g < B) : w'.ownsRow B e 1 v n xs := by
  obtain ⟨h1, h2⟩ := ho
  refine ⟨h1, ?_⟩
  rcases h2 with h2 | ⟨g', cap, cur, hv, hg, hh, r⟩
  · exact .inl h2
  · exact .inr ⟨g', cap, cur, hv, hg, (h.block g' (by omega)).trans hh, r⟩
end Go.Proofs.Ytajbghjjpebndaa
