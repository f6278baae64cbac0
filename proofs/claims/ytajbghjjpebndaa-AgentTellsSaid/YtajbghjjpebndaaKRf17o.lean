/- The walks of the reference of layer 17: fit, last, Over, Cells. -/
import Derived.Test.YtajbghjjpebndaaQ13
import Derived.Test.YtajbghjjpebndaaKBkCells
import Derived.Test.YtajbghjjpebndaaQ22
namespace Go.Proofs.Ytajbghjjpebndaa
set_option maxRecDepth 100000
open Go.RowKit
set_option linter.unusedVariables false
set_option linter.unusedSimpArgs false
attribute [local go_sem] Later.cell Later.frozen setCell_twice
theorem Bk.fit_take_bad {l : List Bk.Pr} {k : Nat} {p : Bk.Pr} (h : l[k]? = some p) (hb : Bk.fits p.1 p.2.length = false) : Bk.fit l = false := by
  cases hf : Bk.fit l with
  | false => rfl
  | true =>
    have := Bk.fit_iff.1 hf p (List.mem_of_getElem? h)
    rw [this] at hb; cases hb
set_option maxHeartbeats 400000 in
theorem rfit_any (A : Option Addr) (l : List Blk) (c n : Nat) (r : Bool) (w : World) (hn : l.length = n) (h : Blks w w.heap.size A l) (hn63 : n ≤ 9223372036854775807) (hr : Bk.fit (prs l) = r) :
    Calls Try.prog 84 #[.slice A n c] w fun e w' => e = .returned (.bool r) ∧ Below w.heap.size w w' := by
  have HN := Lib.hid hn
  have HR := Lib.hid hr
  clear hn hr
  go_enter Try.func84, Try.ntmps84
  go_wp2
  go_loopw [3] (fun i wr => ∃ k : Nat, k ≤ n ∧ i = .int .i64 k ∧ (∀ j, j < k → ∀ b, l[j]? = some b → Bk.fits b.a b.ws.length = true) ∧ Below w.heap.size w wr) (fun i _ => n - (intOf i).toNat)
  case atStart => exact ⟨0, by omega, rfl, fun j hj => absurd hj (Nat.not_lt_zero _), Below.refl _ _⟩
  case round =>
    obtain ⟨k, hk, rfl, hall, hbe⟩ := hrel
    by_cases hlt : k < n
    · obtain ⟨g1, o1, x, rfl, hg1, hx, hxo, hx0, hx1⟩ := (h.to hbe).at_ (k := k) (by rw [HN.out]; exact hlt)
      have e1 : (k : Int) < (n : Int) := by omega
      have HX := Lib.hid hxo
      have HG := Lib.hid hx
      have HA := Lib.hid hall
      have HBE := Lib.hid hbe
      obtain ⟨f, hf⟩ : ∃ f, Bk.fits x.a x.ws.length = f := ⟨_, rfl⟩
      have HF := Lib.hid hf
      have hgr : g1 < wr.heap.size := hg1
      clear hx hxo hall hbe hf
      go_wp2_with fail
      refine (rfits_any x.a x.ws.length x.c x.A f wr HX.out.lo HX.out.hi (by have := HX.out.ln; have := HX.out.cap; omega) HF.out).mono ?_
      rintro e w1 ⟨rfl, b1⟩
      have B1 := Lib.hid (HBE.out.trans (b1.mono HBE.out.size))
      clear b1 hx0 hx1
      cases f
      · obtain rfl : r = false := by rw [← HR.out]; exact Bk.fit_take_bad (prs_get HG.out) HF.out
        go_wp2
        go_ret
        exact ⟨rfl, B1.out⟩
      · go_wp2
        go_roundw
        case rel =>
          refine ⟨k + 1, by omega, by go_num, fun j hj b hb => ?_, B1.out⟩
          by_cases hjk : j < k
          · exact HA.out j hjk b hb
          · obtain rfl : j = k := by omega
            rw [HG.out] at hb
            obtain rfl := Option.some.inj hb
            exact HF.out
        case measure => simp [intOf]; omega
    · obtain rfl : k = n := by omega
      obtain rfl : r = true := by
        rw [← HR.out, Bk.fit_iff]
        intro p hp
        obtain ⟨b, hb, rfl⟩ := List.mem_map.1 hp
        obtain ⟨j, hj⟩ := List.getElem?_of_mem hb
        exact hall j (by have := (List.getElem?_eq_some_iff.1 hj).1; rw [HN.out] at this; exact this) b hj
      have HBE := Lib.hid hbe
      clear hall hbe
      go_wp2
      go_ret
      exact ⟨rfl, HBE.out⟩
set_option maxHeartbeats 400000 in
theorem rlast_any (A : Option Addr) (l : List Blk) (c n q : Nat) (w : World) (hn : l.length = n) (h : Blks w w.heap.size A l) (hn63 : n ≤ 9223372036854775807) (hq : q < 64) (hf : Bk.fit (prs l) = true) :
    Calls Try.prog 85 #[.slice A n c, .int .i64 (q : Int)] w fun e w' => e = .returned (.tuple #[.int .u16 (((Bk.last (prs l) q).getD 0 : Nat) : Int), .bool (Bk.last (prs l) q).isSome]) ∧ Below w.heap.size w w' := by
  have HN := Lib.hid hn
  have HFT := Lib.hid (Bk.fit_iff.1 hf)
  clear hn hf
  go_enter Try.func85, Try.ntmps85
  go_wp2
  go_loop [6] (fun i => ∃ k : Nat, k ≤ n ∧ i = .int .i64 ((k : Int) - 1) ∧ Bk.last (prs l) q = Bk.last ((prs l).take k) q) (fun i => (intOf i + 1).toNat)
  case atStart => exact ⟨n, by omega, rfl, by rw [List.take_of_length_le (by simp [HN.out])]⟩
  case round =>
    obtain ⟨k, hk, rfl, hla⟩ := hrel
    have HLA := Lib.hid hla
    clear hla
    cases k with
    | zero =>
      rw [List.take_zero, Bk.last_nil] at HLA
      go_wp2
      go_ret2
      exact ⟨by rw [HLA.out]; rfl, (by repeat (first | with_reducible exact Below.refl _ _ | with_reducible refine bel_later _ ?_ | with_reducible refine bel_alloc ?_ _ | refine bel_set ?_ (by first | omega | (simp; done) | (simp; omega)) _ | with_reducible refine Below.drew ?_ | with_reducible refine bel_drewN ?_ _ | with_reducible assumption | assumption))⟩
    | succ k =>
      rw [show ((k + 1 : Nat) : Int) - 1 = (k : Int) by omega]
      obtain ⟨g1, o1, x, rfl, hg1, hx, hxo, hx0, hx1⟩ := h.at_ (k := k) (by rw [HN.out]; omega)
      have hkI : (k : Int) < (n : Int) := by omega
      have hfx := Bk.fits_iff.1 (HFT.out x.pr (List.mem_of_getElem? (prs_get hx)))
      obtain ⟨a, ha⟩ : ∃ a : Nat, x.a = (a : Int) := ⟨x.a.toNat, (Int.toNat_of_nonneg hfx.2.1).symm⟩
      obtain ⟨m, hm⟩ : ∃ m, x.ws.length = m := ⟨_, rfl⟩
      rw [ha] at hx0
      rw [hm] at hx1
      have ha64 : a < 64 := by have h1 : x.a < 64 := hfx.2.2.1; omega
      have hm14 : m ≤ 14 := by have h1 : x.ws.length ≤ 14 := hfx.1; omega
      have HP := Lib.hid (prs_get hx)
      have HIT := Lib.hid (show Bk.hits x.pr q = decide (a ≤ q ∧ q < a + m) by
        unfold Bk.hits
        show decide (x.a ≤ (q : Int) ∧ (q : Int) < x.a + (x.ws.length : Int)) = _
        rw [ha, hm]
        exact decide_eq_decide.2 (by omega))
      have HXM := Lib.hid hm
      have HXS := Lib.hid ha
      have SQ := Lib.hid hxo.sq
      clear hfx ha hm hx hxo
      by_cases h1 : a ≤ q
      · obtain ⟨u, hu⟩ : ∃ u, q = a + u := ⟨q - a, by omega⟩
        have hs : (q : Int) - (a : Int) = (u : Int) := by omega
        by_cases h2 : u < m
        · have h2I : (u : Int) < (m : Int) := by omega
          obtain ⟨g4, o4, v, hA, hg4, hv, hvc⟩ := SQ.out.at_ (j := u) (by rw [HXM.out]; exact h2)
          rw [hA] at hx1
          have HH : Bk.hits x.pr q = true := by rw [HIT.out]; exact decide_eq_true ⟨h1, by omega⟩
          have HV : Hid (Bk.last (prs l) q = some v) := Lib.hid (by
            rw [HLA.out, Bk.last_take_succ HP.out, if_pos HH]
            show some (x.ws.getD ((q : Int) - x.a).toNat 0) = some v
            rw [HXS.out, hs, List.getD_eq_getElem?_getD, Int.toNat_natCast, hv]
            rfl)
          clear hu hv hA HH
          go_wp2
          go_ret2
          exact ⟨by rw [HV.out]; rfl, (by repeat (first | with_reducible exact Below.refl _ _ | with_reducible refine bel_later _ ?_ | with_reducible refine bel_alloc ?_ _ | refine bel_set ?_ (by first | omega | (simp; done) | (simp; omega)) _ | with_reducible refine Below.drew ?_ | with_reducible refine bel_drewN ?_ _ | with_reducible assumption | assumption))⟩
        · have h2I : ¬ (u : Int) < (m : Int) := by omega
          have HH : Bk.hits x.pr q = false := by rw [HIT.out]; exact decide_eq_false (fun h => h2 (by omega))
          have HV : Hid (Bk.last (prs l) q = Bk.last ((prs l).take k) q) := Lib.hid (by rw [HLA.out, Bk.last_take_succ HP.out, if_neg (by rw [HH]; decide)])
          clear hu HH
          go_wp2
          go_round
          case rel => exact ⟨k, by omega, by go_num, HV.out⟩
          case measure => (simp [intOf] <;> omega)
      · have h1I : ¬ (a : Int) ≤ (q : Int) := by omega
        obtain ⟨u, hu⟩ : ∃ u : Int, (q : Int) - (a : Int) = u := ⟨_, rfl⟩
        have hu0 : ¬ 0 ≤ u := by omega
        have HH : Bk.hits x.pr q = false := by rw [HIT.out]; exact decide_eq_false (fun h => h1 h.1)
        have HV : Hid (Bk.last (prs l) q = Bk.last ((prs l).take k) q) := Lib.hid (by rw [HLA.out, Bk.last_take_succ HP.out, if_neg (by rw [HH]; decide)])
        have hu9 : -64 ≤ u := by omega
        clear HH
        go_wp2
        go_round
        case rel => exact ⟨k, by omega, by go_num, HV.out⟩
        case measure => (simp [intOf] <;> omega)
theorem one_u16 (a : Int) : ∀ u ∈ [Value.int .u16 a], u.oneCell' = true := by simp [Value.oneCell']
theorem take_map_snoc {L : List Nat} {q v : Nat} (h : L[q]? = some v) : (L.take (q + 1)).map u16w = (L.take q).map u16w ++ [.int .u16 (v : Int)] := by
  rw [List.take_add_one, h, List.map_append]
  rfl
set_option maxRecDepth 100000 in
set_option maxHeartbeats 400000 in
theorem rover_any (A0 : Option Addr) (bank : List Nat) (c0 n0 : Nat) (A : Option Addr) (l : List Blk) (c n : Nat) (w : World) (hb : Sq u16w w w.heap.size A0 bank) (hn0 : bank.length = n0) (hn : l.length = n) (h : Blks w w.heap.size A l) (hn63 : n ≤ 9223372036854775807) :
    Calls Try.prog 62 #[.slice A0 n0 c0, .slice A n c] w (OverP bank (prs l) w) := by
  obtain ⟨r, hr⟩ : ∃ r, Bk.fit (prs l) = r := ⟨_, rfl⟩
  have kf := Lib.hid (fun W (hW : Below w.heap.size w W) => rfit_any A l c n r W hn (h.to hW) hn63 hr)
  have HN0 := Lib.hid hn0
  by_cases h64 : n0 = 64
  · subst h64
    clear hn0
    cases r
    · have HR := Lib.hid hr
      clear hr hn
      go_enter Try.func62, Try.ntmps62
      go_wp2_with fail
      refine (kf.out _ (Below.refl _ _)).mono ?_
      rintro e w1 ⟨rfl, b1⟩
      go_wp2
      go_ret2
      exact ⟨b1, by rw [if_pos HN0.out, if_neg (by rw [HR.out]; decide)]; rfl⟩
    · have HR := Lib.hid hr
      have kl := Lib.hid (fun q W (hq : q < 64) (hW : Below w.heap.size w W) => rlast_any A l c n q W hn (h.to hW) hn63 hq hr)
      clear hr hn
      go_enter Try.func62, Try.ntmps62
      go_wp2_with fail
      refine (kf.out _ (Below.refl _ _)).mono ?_
      rintro e w1 ⟨rfl, b1⟩
      have B1 := Lib.hid b1
      clear b1
      have HOL : Hid ((Bk.over bank (prs l)).length = 64) := Lib.hid (by rw [Bk.over_length, HN0.out])
      go_wp2
      go_loopw [6, 7, 8, 9] (fun v i _ _ wr => ∃ q : Nat, ∃ A2 c2, q ≤ 64 ∧ i = .int .i64 q ∧ v = .slice A2 q c2 ∧ wr.ownsRow w.heap.size 24 1 (.slice A2 q c2) q (((Bk.over bank (prs l)).take q).map u16w) ∧ Below w.heap.size w wr) (fun _ j _ _ _ => 64 - (intOf j).toNat)
      case atStart => exact ⟨0, none, 0, by omega, rfl, rfl, World.ownsRow_nil _ _ _ _, B1.out⟩
      case round =>
        obtain ⟨q, A2, c2, hq, rfl, rfl, hown, hbe⟩ := hrel
        have O2 := Lib.hid hown
        have B2 := Lib.hid hbe
        clear hown hbe
        by_cases hlq : q < 64
        · have hqI : (q : Int) < 64 := by omega
          go_wp2_with fail
          refine (kl.out q wr hlq B2.out).mono ?_
          rintro e w2 ⟨rfl, b2⟩
          have O3 := Lib.hid (own_below O2.out b2)
          have B3 := Lib.hid (B2.out.trans (b2.mono B2.out.size))
          clear b2 O2 B2
          obtain ⟨gb, ob, v0, hA, hgb, hv0, hvc⟩ := ((hb.below B3.out).more B3.out.size).at_ (j := q) (by rw [HN0.out]; exact hlq)
          subst hA
          have HW := Lib.hid (show (Bk.over bank (prs l))[q]? = some ((Bk.last (prs l) q).getD v0) by
            rw [Bk.over_get _ _ (by rw [HN0.out]; exact hlq), List.getD_eq_getElem?_getD, hv0]; rfl)
          obtain ⟨o, ho⟩ : ∃ o, Bk.last (prs l) q = o := ⟨_, rfl⟩
          rw [ho] at HW ⊢
          clear ho hv0
          obtain ⟨i0, hif, hz0, hz1, hz2⟩ := info_parts info_w16
          have hgb2 : gb < w2.heap.size := hgb
          cases o with
          | none =>
            simp only [Option.getD_none, Option.isSome_none] at HW ⊢
            generalize v0 = x at *
            go_wp2_with (at_builtin; refine wpList_append_own_at _ rfl (.tmp 32) (.tmp 34) 22 rfl w.heap.size 24 i0 _ 1 2 Try.underlying22 hif hz0 hz1 hz2 rfl (by decide) (.slice A2 q c2) q _ rfl (O3.out.alloc _) ⟨w2.heap.size, 0, none⟩ 1 1 [.int .u16 ((x : Nat) : Int)] rfl rfl ?_ ?_ ?_ ?_ ?_ ?_; exact one1 _ _ _; exact one_u16 _; (unfold maxLen; omega); omega; (have h1 := B3.out.size; simp; omega); intro v3 w3 hown3 hg3 _ hat3; obtain ⟨A3, c3, rfl⟩ := own_form hown3; have B4 : Hid (Below w.heap.size w w3) := Lib.hid ((bel_alloc B3.out _).grown hg3 (by have := B3.out.size; simp; omega) (fun g hg => (O3.out.lt g hg).1)); have O4 := Lib.hid hown3; clear hg3 hat3 hown3)
            go_roundw
            case rel => exact ⟨q + 1, A3, c3, by omega, by go_num, rfl, by rw [take_map_snoc HW.out]; exact O4.out, B4.out⟩
            case measure => simp [intOf]; omega
          | some x =>
            simp only [Option.getD_some, Option.isSome_some] at HW ⊢
            go_wp2_with (at_builtin; refine wpList_append_own_at _ rfl (.tmp 32) (.tmp 34) 22 rfl w.heap.size 24 i0 _ 1 2 Try.underlying22 hif hz0 hz1 hz2 rfl (by decide) (.slice A2 q c2) q _ rfl (O3.out.alloc _) ⟨w2.heap.size, 0, none⟩ 1 1 [.int .u16 ((x : Nat) : Int)] rfl rfl ?_ ?_ ?_ ?_ ?_ ?_; exact one1 _ _ _; exact one_u16 _; (unfold maxLen; omega); omega; (have h1 := B3.out.size; simp; omega); intro v3 w3 hown3 hg3 _ hat3; obtain ⟨A3, c3, rfl⟩ := own_form hown3; have B4 : Hid (Below w.heap.size w w3) := Lib.hid ((bel_alloc B3.out _).grown hg3 (by have := B3.out.size; simp; omega) (fun g hg => (O3.out.lt g hg).1)); have O4 := Lib.hid hown3; clear hg3 hat3 hown3)
            go_roundw
            case rel => exact ⟨q + 1, A3, c3, by omega, by go_num, rfl, by rw [take_map_snoc HW.out]; exact O4.out, B4.out⟩
            case measure => simp [intOf]; omega
        · obtain rfl : q = 64 := by omega
          go_wp2
          go_ret2
          exact ⟨B2.out, by rw [if_pos HN0.out, if_pos HR.out]; exact ⟨_, _, rfl, by have := O2.out; rwa [List.take_of_length_le (by rw [HOL.out]; exact Nat.le_refl _)] at this⟩⟩
  · have gn : ((n0 : Int) != 64) = true := by simp; omega
    clear hn0 hn hr
    go_enter Try.func62, Try.ntmps62
    go_wp2
    go_ret2
    exact ⟨Below.refl _ _, by rw [if_neg (by rw [HN0.out]; exact h64)]; rfl⟩
end Go.Proofs.Ytajbghjjpebndaa
