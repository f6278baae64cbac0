/- copy into a row of words of the call's own, whatever its capacity. The walks of bank.fit, bank.Over. The walks of agent.claim, commit. -/
import Derived.Test.YtajbghjjpebndaaQ07
import Derived.Test.YtajbghjjpebndaaQ06
import Derived.StillTailTactics
import Derived.Deep.DeepCutAuto
import Derived.Test.YtajbghjjpebndaaQ21
namespace Go.Proofs.Ytajbghjjpebndaa
set_option maxRecDepth 100000
open Go.RowKit
set_option linter.unusedVariables false
theorem splice_take {α : Type} (C X : List α) (off N : Nat) (h : off + X.length ≤ N) (hN : N ≤ C.length) : (splice C off X).take N = splice (C.take N) off X := by
  apply List.ext_getElem?
  intro i
  unfold splice
  have ht : (C.take off).length = off := by rw [List.length_take]; omega
  have ht2 : ((C.take N).take off).length = off := by rw [List.length_take, List.length_take]; omega
  by_cases hi : i < N
  · rw [List.getElem?_take_of_lt hi]
    by_cases h1 : i < off
    · rw [List.getElem?_append_left (by omega), List.getElem?_append_left (by omega), List.getElem?_take_of_lt h1, List.getElem?_take_of_lt h1, List.getElem?_take_of_lt hi]
    · rw [List.getElem?_append_right (l₁ := C.take off) (by omega), List.getElem?_append_right (l₁ := (C.take N).take off) (by omega), ht, ht2]
      by_cases h2 : i - off < X.length
      · rw [List.getElem?_append_left h2, List.getElem?_append_left h2]
      · rw [List.getElem?_append_right (by omega), List.getElem?_append_right (by omega), List.getElem?_drop, List.getElem?_drop, List.getElem?_take_of_lt (by omega)]
  · rw [List.getElem?_take_eq_none (by omega), List.getElem?_eq_none]
    simp only [List.length_append, List.length_drop, ht2, List.length_take]
    omega
theorem wpList_copy_row {w : World} {ops : Array Oper} {rest : List Oper} {o : Oper} {a : Act} {Q : Exit → Act → World → Prop} (hgd : o.guard = none) (d s : Operand)
    (ho : o.op = .call { callee := .builtin .copy, args := #[d, s], argTypes := #[22, 22] }) (base g off N c : Nat) (L X : List Nat) (hown : w.ownsRow base 24 1 (.slice (some ⟨g, 0, none⟩) N c) N (L.map u16w))
    (dp : Option Addr) (dLen dCap : Nat) (hd : a.eval d = .slice dp dLen dCap) (hdp : 0 < X.length → dp = some ⟨g, off, none⟩) (Ax : Option Addr) (m cx B : Nat) (hs : a.eval s = .slice Ax m cx) (hm : X.length = m) (hmd : m ≤ dLen) (hX : Sq u16w w B Ax X) (hoff : off + m ≤ N)
    (h : ∀ w', w'.ownsRow base 24 1 (.slice (some ⟨g, 0, none⟩) N c) N ((splice L off X).map u16w) → Below base w w' → wpList Try.prog ops Q rest (a.put o.dst (goInt m)) w') :
    wpList Try.prog ops Q (o :: rest) a w := by
  obtain ⟨hl, hr⟩ := hown
  rcases hr with ⟨h1, _⟩ | ⟨g', cap, cur, hv, hbg, hh, h3, h4, h5, h6⟩
  · cases h1
  obtain ⟨rfl, rfl⟩ : g = g' ∧ c = cap := by simpa using hv
  have hLl : L.length = N := by simpa using hl
  have hcl : cur.toList.length = c := by simpa using h5
  refine wpList_copy_splice hgd d s _ _ ho 24 Try.underlying22 size_w16 dp Ax dLen dCap m cx hd hs g off cur.toList 24 (by simpa using hh) (X.map u16w) (by rw [List.length_map, hm]; exact (Nat.min_eq_left hmd).symm) (fun hp => ?_) (by rw [List.length_map]; omega) (by intro v hv; obtain ⟨x, _, rfl⟩ := List.mem_map.1 hv; rfl) base w (Below.refl _ _) hbg (fun w' hg' hb' => ?_)
  · rw [List.length_map] at hp
    obtain ⟨b2, o2, rfl, _, hc⟩ := hX hp
    refine ⟨hdp hp, _, rfl, fun j v hv => ?_⟩
    have hadd : (⟨b2, o2, none⟩ : Addr).add j = ⟨b2, o2 + j, none⟩ := by unfold Addr.add; split <;> simp_all
    rw [hadd]
    simp only [List.getElem?_map, Option.map_eq_some_iff] at hv
    obtain ⟨y, hy, rfl⟩ := hv
    exact hc j y hy
  · have hl2 : (X.map u16w).length = m := by simp [hm]
    rw [hl2]
    refine h w' ⟨by rw [List.length_map, length_splice _ _ _ (by omega), hLl]; omega, .inr ⟨g, c, (splice cur.toList off (X.map u16w)).toArray, rfl, hbg, hg'.out, h3, h4, ?_, ?_⟩⟩ hb'
    · rw [List.size_toArray, length_splice _ _ _ (by rw [hl2]; omega), hcl]; omega
    · have h6' : cur.toList.take N = L.map u16w := by simpa using h6
      have := splice_take cur.toList (X.map u16w) off N (by rw [hl2]; omega) (by omega)
      rw [h6', splice_map] at this
      simpa using this
end Go.Proofs.Ytajbghjjpebndaa
namespace Go.Proofs.Ytajbghjjpebndaa
set_option maxRecDepth 100000
open Go.RowKit
set_option linter.unusedVariables false
attribute [local go_sem] Later.cell Later.frozen setCell_twice
theorem fit1_any (b : Blk) (r : Bool) (w : World) (hb : b.Ok w w.heap.size) (hr : Bk.fits b.a b.ws.length = !r) :
    Calls Try.prog 82 #[.agg #[.int .i64 b.a, .slice b.A b.ws.length b.c]] w fun e w' => e = .returned (.bool r) ∧ Below w.heap.size w w' := by
  have kf := Lib.hid (fun W => fits_any b.a b.ws.length b.c b.A (!r) W hb.lo hb.hi (Nat.le_trans hb.ln hb.cap) hr)
  clear hr
  go_enter Try.func82, Try.ntmps82
  go_wp2_with fail
  refine (kf.out _).mono ?_
  rintro e_x1 w_x1 ⟨rfl, hb_x1⟩
  obtain ⟨x1, rfl⟩ := later_is hb_x1
  clear hb_x1
  have hz_x1 := x1.bel.size
  try simp at hz_x1
  go_wp2
  go_ret
  exact ⟨by simp, (by repeat (first | with_reducible exact Below.refl _ _ | with_reducible refine bel_later _ ?_ | with_reducible refine bel_alloc ?_ _ | refine bel_set ?_ (by first | omega | (simp; done) | (simp; omega)) _ | with_reducible refine Below.drew ?_ | with_reducible refine bel_drewN ?_ _ | with_reducible assumption | assumption))⟩
set_option maxHeartbeats 1000000 in
theorem indexFunc_any (A : Option Addr) (l : List Blk) (c n : Nat) (w : World) (hn : l.length = n) (h : Blks w w.heap.size A l) (hn63 : n ≤ 9223372036854775807) :
    Calls Try.prog 105 #[.slice A n c, .func (.func 82) #[] #[]] w (Found (!Bk.fit (prs l)) w) := by
  have HN := Lib.hid hn
  clear hn
  go_enter Try.func105, Try.ntmps105
  go_wp2
  go_loopw [8] (fun i wr => ∃ k : Nat, k ≤ n ∧ i = .int .i64 k ∧ Hid (Bk.fit (prs (l.take k)) = true) ∧ Below w.heap.size w wr) (fun i _ => n - (intOf i).toNat)
  case atStart => exact ⟨0, by omega, rfl, Lib.hid (by simp [Bk.fit]), Below.refl _ _⟩
  case round =>
    obtain ⟨k, hk, rfl, heq, hbel⟩ := hrel
    by_cases hlt : k < n
    · obtain ⟨g1, o1, x, rfl, hg1, hx, hxo, hx0, hx1⟩ := (h.to hbel).at_ (k := k) (by rw [HN.out]; exact hlt)
      have e1 : (k : Int) < (n : Int) := by omega
      obtain ⟨r, hr⟩ : ∃ r, Bk.fits x.a x.ws.length = !r := ⟨!Bk.fits x.a x.ws.length, by simp⟩
      have ks := Lib.hid (fun W (h : Below wr.heap.size wr W) => fit1_any x r W (hxo.to h) hr)
      have HX := Lib.hid hx
      have HRR := Lib.hid hr
      clear hx hr hxo
      go_wp2_with fail
      refine (ks.out _ (by repeat (first | with_reducible exact Below.refl _ _ | with_reducible refine bel_later _ ?_ | with_reducible refine bel_alloc ?_ _ | refine bel_set ?_ (by first | omega | (simp; done) | (simp; omega)) _ | with_reducible refine Below.drew ?_ | with_reducible refine bel_drewN ?_ _ | with_reducible assumption | assumption))).mono ?_
      rintro e_x3 w_x3 ⟨rfl, hb_x3⟩
      obtain ⟨x3, rfl⟩ := later_is hb_x3
      clear hb_x3
      have hz_x3 := x3.bel.size
      try simp at hz_x3
      cases r
      · go_wp2
        go_roundw
        case rel =>
          refine ⟨k + 1, by omega, by go_num, Lib.hid ?_, (by repeat (first | with_reducible exact Below.refl _ _ | with_reducible refine bel_later _ ?_ | with_reducible refine bel_alloc ?_ _ | refine bel_set ?_ (by first | omega | (simp; done) | (simp; omega)) _ | with_reducible refine Below.drew ?_ | with_reducible refine bel_drewN ?_ _ | with_reducible assumption | assumption))⟩
          rw [List.take_add_one, HX.out]
          have := heq.out
          have h2 := HRR.out
          simp only [Bk.fit, prs, Option.toList, List.map_append, List.all_append, List.map_cons, List.map_nil, List.all_cons, List.all_nil, Bool.and_true, Bool.and_eq_true] at this ⊢
          exact ⟨this, h2⟩
        case measure => simp [intOf]; omega
      · have HD : Hid (Bk.fit (prs l) = false) := Lib.hid (by
          rw [Bool.eq_false_iff]
          intro h
          have := Bk.fit_iff.1 h _ (List.mem_of_getElem? (prs_get HX.out))
          have h2 := HRR.out
          rw [show Bk.fits x.pr.1 x.pr.2.length = Bk.fits x.a x.ws.length from rfl, h2] at this
          cases this)
        go_wp2
        go_ret
        exact ⟨(k : Int), rfl, by rw [HD.out]; simp, (by repeat (first | with_reducible exact Below.refl _ _ | with_reducible refine bel_later _ ?_ | with_reducible refine bel_alloc ?_ _ | refine bel_set ?_ (by first | omega | (simp; done) | (simp; omega)) _ | with_reducible refine Below.drew ?_ | with_reducible refine bel_drewN ?_ _ | with_reducible assumption | assumption))⟩
    · obtain rfl : k = n := by omega
      go_wp2
      go_ret
      refine ⟨-1, rfl, ?_, (by repeat (first | with_reducible exact Below.refl _ _ | with_reducible refine bel_later _ ?_ | with_reducible refine bel_alloc ?_ _ | refine bel_set ?_ (by first | omega | (simp; done) | (simp; omega)) _ | with_reducible refine Below.drew ?_ | with_reducible refine bel_drewN ?_ _ | with_reducible assumption | assumption))⟩
      have := heq.out
      rw [List.take_of_length_le (by rw [HN.out]; exact Nat.le_refl _)] at this
      rw [this]
      rfl
theorem bkfit_any (A : Option Addr) (l : List Blk) (c n : Nat) (w : World) (hn : l.length = n) (h : Blks w w.heap.size A l) (hn63 : n ≤ 9223372036854775807) :
    Calls Try.prog 49 #[.slice A n c] w fun e w' => e = .returned (.bool (Bk.fit (prs l))) ∧ Below w.heap.size w w' := by
  have ki := Lib.hid (fun W (hW : Below w.heap.size w W) => indexFunc_any A l c n W hn (h.to hW) hn63)
  have kc : Hid (∀ W, Below w.heap.size w W → Calls Try.prog 81 #[.slice A n c, .func (.func 82) #[] #[]] W fun e w' => e = .returned (.bool (!Bk.fit (prs l))) ∧ Below W.heap.size W w') := Lib.hid (fun W hW => by
    have k2 := ki.out W hW
    clear ki
    go_enter Try.func81, Try.ntmps81
    go_wp2_with fail
    refine k2.mono ?_
    rintro e w1 ⟨r, rfl, hr, b1⟩
    go_wp2
    go_ret
    exact ⟨by first | rfl | (rw [hr]), b1⟩)
  clear ki
  go_enter Try.func49, Try.ntmps49
  go_wp2_with fail
  refine (kc.out _ (by repeat (first | with_reducible exact Below.refl _ _ | with_reducible refine bel_later _ ?_ | with_reducible refine bel_alloc ?_ _ | refine bel_set ?_ (by first | omega | (simp; done) | (simp; omega)) _ | with_reducible refine Below.drew ?_ | with_reducible refine bel_drewN ?_ _ | with_reducible assumption | assumption))).mono ?_
  rintro e_x1 w_x1 ⟨rfl, hb_x1⟩
  obtain ⟨x1, rfl⟩ := later_is hb_x1
  clear hb_x1
  have hz_x1 := x1.bel.size
  try simp at hz_x1
  go_wp2
  go_ret
  exact ⟨by simp, (by repeat (first | with_reducible exact Below.refl _ _ | with_reducible refine bel_later _ ?_ | with_reducible refine bel_alloc ?_ _ | refine bel_set ?_ (by first | omega | (simp; done) | (simp; omega)) _ | with_reducible refine Below.drew ?_ | with_reducible refine bel_drewN ?_ _ | with_reducible assumption | assumption))⟩
def OverP (bank : List Nat) (l : List Bk.Pr) (w : World) (e : Ending) (w' : World) : Prop :=
  Below w.heap.size w w' ∧ if bank.length = 64 then (if Bk.fit l = true then ∃ A c, e = .returned (.tuple #[.slice A 64 c, .int .i64 0]) ∧ w'.ownsRow w.heap.size 24 1 (.slice A 64 c) 64 ((Bk.over bank l).map u16w) else e = .returned (.tuple #[.slice none 0 0, .int .i64 20])) else e = .returned (.tuple #[.slice none 0 0, .int .i64 21])
theorem put_splice (L : List Nat) (p : Bk.Pr) : Bk.put L p = splice L p.1.toNat p.2 := rfl
set_option maxRecDepth 100000 in
set_option maxHeartbeats 1000000 in
theorem over_any (A0 : Option Addr) (bank : List Nat) (c0 n0 : Nat) (A : Option Addr) (l : List Blk) (c n : Nat) (w : World) (hb : Sq u16w w w.heap.size A0 bank) (hn0 : bank.length = n0) (hA0 : A0 = none → c0 = 0) (hn : l.length = n) (h : Blks w w.heap.size A l) (hn63 : n ≤ 9223372036854775807) :
    Calls Try.prog 16 #[.slice A0 n0 c0, .slice A n c] w (OverP bank (prs l) w) := by
  have kf := Lib.hid (fun W (hW : Below w.heap.size w W) => bkfit_any A l c n W hn (h.to hW) hn63)
  obtain ⟨r, hr⟩ : ∃ r, Bk.fit (prs l) = r := ⟨_, rfl⟩
  rw [hr] at kf
  by_cases h64 : n0 = 64
  · subst h64
    have HN0 := Lib.hid hn0
    cases r
    · have HR := Lib.hid hr
      clear hr hn hn0
      go_enter Try.func16, Try.ntmps16
      go_wp2_with fail
      refine (kf.out _ (Below.refl _ _)).mono ?_
      rintro e w1 ⟨rfl, b1⟩
      go_wp2
      go_ret2
      exact ⟨b1, by rw [if_pos HN0.out, if_neg (by rw [HR.out]; decide)]; rfl⟩
    · have HR := Lib.hid hr
      have HN := Lib.hid hn
      have kc := Lib.hid (fun W (hW : Below w.heap.size w W) => clone_any A0 bank 64 c0 W ((hb.below hW).more hW.size) (by rw [hn0]; decide) hn0 hA0)
      clear hr hn hn0
      go_enter Try.func16, Try.ntmps16
      go_wp2_with fail
      refine (kf.out _ (Below.refl _ _)).mono ?_
      rintro e w1 ⟨rfl, b1⟩
      have B1 := Lib.hid b1
      clear b1
      go_wp2_with fail
      refine (kc.out _ B1.out).mono ?_
      rintro e w2 ⟨A2, c2, rfl, o2, b2⟩
      have hA2 : ∃ g2, A2 = some ⟨g2, 0, none⟩ := by
        rw [HN0.out] at o2
        rcases o2.2 with ⟨h1, h2⟩ | ⟨g, cap, cur, hv, _⟩
        · cases h2
        · exact ⟨g, by simpa using (show A2 = some ⟨g, 0, none⟩ ∧ _ by simpa using hv).1⟩
      obtain ⟨g2, rfl⟩ := hA2
      rw [HN0.out] at o2 ⊢
      have O2 := Lib.hid (own_more o2 B1.out.size)
      have B2 := Lib.hid (B1.out.trans (b2.mono B1.out.size))
      clear o2 b2 B1
      go_wp2
      go_loopw [18] (fun i wr => ∃ k : Nat, k ≤ n ∧ i = .int .i64 k ∧ wr.ownsRow w.heap.size 24 1 (.slice (some ⟨g2, 0, none⟩) 64 c2) 64 ((Bk.over bank (prs (l.take k))).map u16w) ∧ Below w.heap.size w wr) (fun i _ => n - (intOf i).toNat)
      case atStart => exact ⟨0, by omega, rfl, by rw [List.take_zero]; rw [show Bk.over bank (prs []) = bank from Bk.over_nil bank]; exact O2.out, B2.out⟩
      case round =>
        clear O2 B2
        obtain ⟨k, hk, rfl, hown, hbel⟩ := hrel
        by_cases hlt : k < n
        · obtain ⟨g1, o1, x, rfl, hg1, hx, hxo, hx0, hx1⟩ := (h.to hbel).at_ (k := k) (by rw [HN.out]; exact hlt)
          have e1 : (k : Int) < (n : Int) := by omega
          have h0I : (0 : Int) ≤ (k : Int) := by omega
          have hfx : Bk.fits x.a x.ws.length = true := Bk.fit_iff.1 HR.out _ (List.mem_of_getElem? (prs_get hx))
          have hf := Bk.fits_iff.1 hfx
          obtain ⟨a, ha⟩ : ∃ a : Nat, x.a = (a : Int) := ⟨x.a.toNat, by omega⟩
          obtain ⟨m, hm⟩ : ∃ m, x.ws.length = m := ⟨_, rfl⟩
          have ham : a + m ≤ 64 := by omega
          have hm14 : m ≤ 14 := by omega
          have ha64 : a < 64 := by omega
          rw [ha] at hx0
          rw [hm] at hx1
          have HOV : Hid (splice (Bk.over bank (prs (l.take k))) a x.ws = Bk.over bank (prs (l.take (k + 1)))) := Lib.hid (by
            rw [prs, prs, List.map_take, List.map_take, Bk.over_take_succ HN0.out (prs_get hx) hfx, put_splice, show x.pr.1.toNat = a by show x.a.toNat = a; omega])
          have HXM := Lib.hid hm
          have HS := Lib.hid hxo.sq
          have OW := Lib.hid hown
          have BE := Lib.hid hbel
          have hgr : g1 < wr.heap.size := hg1
          clear hx hxo hfx hf ha hm hown hbel
          go_upto_region 9 with fail
          obtain ⟨W, hW⟩ : ∃ W, wr.alloc (.cells #[.int .i64 (a : Int), .slice x.A m x.c] 30) = W := ⟨_, rfl⟩
          have w0 : W.cell? ⟨wr.heap.size, 0, none⟩ = some (.int .i64 (a : Int)) := by rw [← hW]; simp [go_sem]
          have w1 : W.cell? ⟨wr.heap.size, 1, none⟩ = some (.slice x.A m x.c) := by rw [← hW]; simp [go_sem]
          have wl : wr.heap.size < W.heap.size := by rw [← hW]; simp
          have ba : Below wr.heap.size wr W := by rw [← hW]; exact bel_alloc (Below.refl _ _) _
          rw [hW]
          have OW2 := Lib.hid (own_below OW.out ba)
          have BE2 := Lib.hid (BE.out.trans (ba.mono BE.out.size))
          have HS2 := Lib.hid ((HS.out.below ba).more ba.size)
          clear hW ba OW BE HS
          generalize wr.heap.size = g7 at *
          have haI : (a : Int) ≤ 64 := by omega
          have hca : ¬ c2 = a := by
            rcases OW2.out.2 with ⟨h1, h2⟩ | ⟨g, cap, cur, hv, _, _, h3, _⟩
            · cases h2
            · have : c2 = cap := by simpa using (show _ ∧ c2 = cap by simpa using hv).2
              omega
          have hlen : (Bk.over bank (prs (l.take k))).length = 64 := by rw [Bk.over_length, HN0.out]
          have HLEN := Lib.hid hlen
          clear hlen
          refine wp_region_still_tail 6 (by kernel_rfl) (by kernel_rfl) ?_
          simp only [List.take_succ_cons, List.take_zero, List.drop_succ_cons, List.drop_zero]
          obtain ⟨V, hV⟩ : ∃ V : World, ({ heap := W.heap, tape := W.tape, drawn := W.drawn + 1, os := W.os, output := W.output } : World) = V := ⟨_, rfl⟩
          rw [hV]
          have v0 : V.cell? ⟨g7, 0, none⟩ = some (.int .i64 (a : Int)) := by rw [← hV]; exact w0
          have v1 : V.cell? ⟨g7, 1, none⟩ = some (.slice x.A m x.c) := by rw [← hV]; exact w1
          have OV : Hid (V.ownsRow w.heap.size 24 1 (.slice (some ⟨g2, 0, none⟩) 64 c2) 64 ((Bk.over bank (prs (l.take k))).map u16w)) := Lib.hid (by rw [← hV]; exact OW2.out)
          have BV : Hid (Below w.heap.size w V) := Lib.hid (by rw [← hV]; exact BE2.out.drew)
          have SV : Hid (Sq u16w V V.heap.size x.A x.ws) := Lib.hid (by rw [← hV]; exact HS2.out)
          clear hV OW2 BE2 HS2 w0 w1
          repeat still_step
          try refine wpStill_nil ?_
          go_wp2_with (
            refine wpList_copy_row rfl (.tmp 25) (.tmp 27) rfl w.heap.size g2 a 64 c2 (Bk.over bank (prs (l.take k))) x.ws OV.out _ _ _ rfl (fun hp => rfl) x.A m x.c V.heap.size rfl HXM.out (by show m ≤ 64 - a; omega) SV.out (by omega) ?_
            intro w5 o5 b5
            rw [HOV.out] at o5
            have O5 := Lib.hid o5
            have B5 := Lib.hid (BV.out.trans b5)
            clear o5 b5)
          go_roundw
          case rel => exact ⟨k + 1, by omega, by go_num, O5.out, B5.out⟩
          case measure => simp [intOf]; omega
        · obtain rfl : k = n := by omega
          have OW := Lib.hid hown
          have BE := Lib.hid hbel
          rw [List.take_of_length_le (by rw [HN.out]; exact Nat.le_refl _)] at hown
          go_wp2
          go_ret2
          exact ⟨BE.out, by rw [if_pos HN0.out, if_pos HR.out]; exact ⟨_, _, rfl, hown⟩⟩
  · have gn : ((n0 : Int) != 64) = true := by simp; omega
    have HN0 := Lib.hid hn0
    clear hn0 hn hr
    go_enter Try.func16, Try.ntmps16
    go_wp2
    go_ret2
    exact ⟨Below.refl _ _, by rw [if_neg (by rw [HN0.out]; exact h64)]; rfl⟩
end Go.Proofs.Ytajbghjjpebndaa
namespace Go.Proofs.Ytajbghjjpebndaa
set_option maxRecDepth 100000
open Go.RowKit
set_option linter.unusedVariables false
set_option linter.unusedSimpArgs false
attribute [local go_sem] Later.cell Later.frozen setCell_twice
section
variable {A : Option Addr} {c base : Nat} {s : Stv} {g : Ag}
set_option maxHeartbeats 400000 in
theorem agclaim_eq (w : World) (h : AgIs A c s g w base) (q : Cmd) (L : Ls.L) (hq : q.Fit) (h1 : q.tx = g.tx) (hL : (Ls.take g.l q.ow g.tk).1 = L) :
    Calls Try.prog 88 #[.agg (agC A c s g).toArray, .agg (cmdL q).toArray] w fun e w' => e = .returned (.agg (agC A c s ⟨g.bank, L, g.ph, g.tx, g.la, g.stx, g.S, g.tk⟩).toArray) ∧ Below w.heap.size w w' := by
  have kt := Lib.hid (fun W (hW : Below w.heap.size w W) => agtaken_any W (h.to hW) q.ow L hq.ow hL)
  have HC := Lib.hid h.C32
  have HD : Hid ((agC A c s ⟨g.bank, L, g.ph, g.tx, g.la, g.stx, g.S, g.tk⟩).length = 32) := Lib.hid (agL_length h.C25)
  have g1 : ((q.tx : Int) == (g.tx : Int)) = true := by simp [h1]
  clear h hL h1
  go_enter Try.func88, Try.ntmps88
  go_upto_region 1 with fail
  obtain ⟨w0, hw0⟩ : ∃ w_q_, w_q_ = ((w.alloc (.cells (agC A c s g).toArray 35)).alloc (.cells (cmdL q).toArray 41)).alloc (.cells z32 35) := ⟨_, rfl⟩
  rw [← hw0]
  have hin := in_acr w (agC A c s g) (cmdL q)
  rw [← hw0] at hin
  obtain ⟨r1, rq, r2, b0, z0⟩ := hin
  have R1 := Lib.hid r1
  have RQ := Lib.hid rq
  have R2 := Lib.hid r2
  have B0 := Lib.hid b0
  clear hw0 r1 r2 b0 rq
  have alt : w.heap.size < (w0).heap.size := R1.out.lt
  have alu : w.heap.size < (w0).heap.size + 1 := Nat.lt_succ_of_lt R1.out.lt
  have a0 : (w0).cell? ⟨w.heap.size, 0, none⟩ = some (.slice A g.bank.length c) := R1.out.cells 0
  have az0 : (w0).frozen? ⟨w.heap.size, 0, none⟩ = false := R1.out.frozen 0
  have a1 : (w0).cell? ⟨w.heap.size, 1, none⟩ = some (.int .u16 (g.l.o : Int)) := R1.out.cells 1
  have az1 : (w0).frozen? ⟨w.heap.size, 1, none⟩ = false := R1.out.frozen 1
  have a2 : (w0).cell? ⟨w.heap.size, 2, none⟩ = some (.int .i64 g.l.l) := R1.out.cells 2
  have az2 : (w0).frozen? ⟨w.heap.size, 2, none⟩ = false := R1.out.frozen 2
  have a3 : (w0).cell? ⟨w.heap.size, 3, none⟩ = some (.int .u8 (g.ph : Int)) := R1.out.cells 3
  have az3 : (w0).frozen? ⟨w.heap.size, 3, none⟩ = false := R1.out.frozen 3
  have a4 : (w0).cell? ⟨w.heap.size, 4, none⟩ = some (.int .u32 (g.tx : Int)) := R1.out.cells 4
  have az4 : (w0).frozen? ⟨w.heap.size, 4, none⟩ = false := R1.out.frozen 4
  have qlt : w.heap.size + 1 < (w0).heap.size := RQ.out.lt
  have qlu : w.heap.size + 1 < (w0).heap.size + 1 := Nat.lt_succ_of_lt RQ.out.lt
  have q0 : (w0).cell? ⟨w.heap.size + 1, 0, none⟩ = some (.int .u16 (q.ow : Int)) := RQ.out.cells 0
  have qz0 : (w0).frozen? ⟨w.heap.size + 1, 0, none⟩ = false := RQ.out.frozen 0
  have q1 : (w0).cell? ⟨w.heap.size + 1, 1, none⟩ = some (.int .u8 (q.v : Int)) := RQ.out.cells 1
  have qz1 : (w0).frozen? ⟨w.heap.size + 1, 1, none⟩ = false := RQ.out.frozen 1
  have q2 : (w0).cell? ⟨w.heap.size + 1, 2, none⟩ = some (.int .u32 (q.tx : Int)) := RQ.out.cells 2
  have qz2 : (w0).frozen? ⟨w.heap.size + 1, 2, none⟩ = false := RQ.out.frozen 2
  go_wp2_with (refine wpList_load_var rfl 35 (.tmp 2) rfl (w.heap.size) rfl _ _ 32 R1.out Try.underlying35 rfl size_32 HC.out ?_)
  with_reducible refine (kt.out _ B0.out).mono ?_
  rintro e1 w1 ⟨rfl, hb1⟩
  replace R2 := Lib.hid (R2.out.to hb1)
  have B1 := Lib.hid (B0.out.trans (hb1.mono B0.out.size))
  clear hb1 B0 a0 a1 a2 a3 a4 az0 az1 az2 az3 az4 q0 q1 q2 qz0 qz1 qz2
  go_wp2_with (refine wpList_store_var rfl 35 (.tmp 4) (.tmp 13) rfl (w.heap.size + 2) _ (agC A c s ⟨g.bank, L, g.ph, g.tx, g.la, g.stx, g.S, g.tk⟩) 32 rfl rfl R2.out size_32 (by first | rfl | exact HCO.out) HD.out (agC_one _) ?_; intro w_5 r_5 k_5; have R_5 := Lib.hid r_5; have K_5 := Lib.hid k_5; clear r_5 k_5)
  exact bodyPost_ret (results_cell_row rfl _ _ (w.heap.size + 2) 35 _ (0, 0) _ rfl R_5.out Try.underlying35 rfl (by rw [size_32, List.size_toArray, HD.out])) rfl ⟨rfl, K_5.out.to B1.out (by omega)⟩
theorem St0_agC (t : Nat) : (agC A c Stv.zero g).set 6 (.int .u32 (t : Int)) = agC A c (St0 t) g := rfl
set_option maxHeartbeats 1000000 in
theorem agclaim_new (w : World) (h : AgIs A c s g w base) (q : Cmd) (L : Ls.L) (hq : q.Fit) (h1 : q.tx ≠ g.tx) (hL : (Ls.take ⟨0, 0⟩ q.ow g.tk).1 = L) :
    Calls Try.prog 88 #[.agg (agC A c s g).toArray, .agg (cmdL q).toArray] w fun e w' => e = .returned (.agg (agC A c (St0 q.tx) ⟨g.bank, L, 1, q.tx, g.la, q.tx, ss0, g.tk⟩).toArray) ∧ Below w.heap.size w w' := by
  have kf := Lib.hid (fun W (hW : Below w.heap.size w W) => agfreed_any W (h.to hW))
  have kt := Lib.hid (fun W (hW : Below w.heap.size w W) => agtaken_any W (h.freed.to hW) q.ow L hq.ow hL)
  have HC := Lib.hid h.C32
  have HG : Hid ((agC A c Stv.zero ⟨g.bank, L, 0, 0, g.la, 0, ss0, g.tk⟩).length = 32) := Lib.hid (agL_length rfl)
  have HD : Hid ((agC A c (St0 q.tx) ⟨g.bank, L, 1, q.tx, g.la, q.tx, ss0, g.tk⟩).length = 32) := Lib.hid (agL_length rfl)
  have g1 : ((q.tx : Int) == (g.tx : Int)) = false := beq_eq_false_iff_ne.2 (by omega)
  clear h hL h1
  go_enter Try.func88, Try.ntmps88
  go_upto_region 1 with fail
  obtain ⟨w0, hw0⟩ : ∃ w_q_, w_q_ = ((w.alloc (.cells (agC A c s g).toArray 35)).alloc (.cells (cmdL q).toArray 41)).alloc (.cells z32 35) := ⟨_, rfl⟩
  rw [← hw0]
  have hin := in_acr w (agC A c s g) (cmdL q)
  rw [← hw0] at hin
  obtain ⟨r1, rq, r2, b0, z0⟩ := hin
  have R1 := Lib.hid r1
  have RQ := Lib.hid rq
  have R2 := Lib.hid r2
  have B0 := Lib.hid b0
  clear hw0 r1 r2 b0 rq
  have alt : w.heap.size < (w0).heap.size := R1.out.lt
  have alu : w.heap.size < (w0).heap.size + 1 := Nat.lt_succ_of_lt R1.out.lt
  have a0 : (w0).cell? ⟨w.heap.size, 0, none⟩ = some (.slice A g.bank.length c) := R1.out.cells 0
  have az0 : (w0).frozen? ⟨w.heap.size, 0, none⟩ = false := R1.out.frozen 0
  have a1 : (w0).cell? ⟨w.heap.size, 1, none⟩ = some (.int .u16 (g.l.o : Int)) := R1.out.cells 1
  have az1 : (w0).frozen? ⟨w.heap.size, 1, none⟩ = false := R1.out.frozen 1
  have a2 : (w0).cell? ⟨w.heap.size, 2, none⟩ = some (.int .i64 g.l.l) := R1.out.cells 2
  have az2 : (w0).frozen? ⟨w.heap.size, 2, none⟩ = false := R1.out.frozen 2
  have a3 : (w0).cell? ⟨w.heap.size, 3, none⟩ = some (.int .u8 (g.ph : Int)) := R1.out.cells 3
  have az3 : (w0).frozen? ⟨w.heap.size, 3, none⟩ = false := R1.out.frozen 3
  have a4 : (w0).cell? ⟨w.heap.size, 4, none⟩ = some (.int .u32 (g.tx : Int)) := R1.out.cells 4
  have az4 : (w0).frozen? ⟨w.heap.size, 4, none⟩ = false := R1.out.frozen 4
  have qlt : w.heap.size + 1 < (w0).heap.size := RQ.out.lt
  have qlu : w.heap.size + 1 < (w0).heap.size + 1 := Nat.lt_succ_of_lt RQ.out.lt
  have q0 : (w0).cell? ⟨w.heap.size + 1, 0, none⟩ = some (.int .u16 (q.ow : Int)) := RQ.out.cells 0
  have qz0 : (w0).frozen? ⟨w.heap.size + 1, 0, none⟩ = false := RQ.out.frozen 0
  have q1 : (w0).cell? ⟨w.heap.size + 1, 1, none⟩ = some (.int .u8 (q.v : Int)) := RQ.out.cells 1
  have qz1 : (w0).frozen? ⟨w.heap.size + 1, 1, none⟩ = false := RQ.out.frozen 1
  have q2 : (w0).cell? ⟨w.heap.size + 1, 2, none⟩ = some (.int .u32 (q.tx : Int)) := RQ.out.cells 2
  have qz2 : (w0).frozen? ⟨w.heap.size + 1, 2, none⟩ = false := RQ.out.frozen 2
  go_upto_region 3 with fail
  clear a0 a1 a2 a3 a4 az0 az1 az2 az3 az4 qz0 qz1 qz2
  have hz0 : w.heap.size + 1 < w0.heap.size := by omega
  refine wp_region_held_drew (S := (fun w' => w'.cell? ⟨w.heap.size + 1, 0, none⟩ = some (.int .u16 (q.ow : Int)))) (by kernel_rfl) ?_ (fun hHeld => ?_)
  · exact q0
  refine takeD (i := 2) (oi := _) (v := ?vv67) (d := some 16) rfl (by kernel_rfl) (by kernel_rfl) (by kernel_rfl) (by kernel_rfl) (fun _ _ _ h => h) (Or.inl ⟨by kernel_rfl, ?_⟩) (by assumption) ?_
  rotate_left 1
  · intro W_ hSw; (try dsimp only at hSw); go_simp; (first | done | with_reducible rfl)
  try simp only [Act.put, List.setIfInBounds_toArray, List.set_cons_zero, List.set_cons_succ]
  refine takeD (i := 3) (oi := _) (v := ?vv68) (d := some 17) rfl (by kernel_rfl) (by kernel_rfl) (by kernel_rfl) (by kernel_rfl) (fun _ _ _ h => h) (Or.inl ⟨by kernel_rfl, ?_⟩) (by assumption) ?_
  rotate_left 1
  · intro W_ hSw; (try dsimp only at hSw); go_simp; (first | done | with_reducible rfl)
  try simp only [Act.put, List.setIfInBounds_toArray, List.set_cons_zero, List.set_cons_succ]
  refine wpAnyH_ready (rs := [0]) (by kernel_rfl) (by simp) ?_
  refine AllReadyH.cons (o := _) rfl (fun K hK => ?_) AllReadyH.nil
  refine step_load_var rfl 35 (.tmp 2) rfl w.heap.size rfl _ _ 32 R1.out.drew Try.underlying35 rfl size_32 HC.out ?_
  refine hK.out _ _ ?_ (fun hHeld => ?_)
  · exact q0
  clear hK K
  try simp only [Act.put]
  try simp only [List.setIfInBounds_toArray]
  try simp only [List.set_cons_succ]
  try simp only [List.set_cons_zero]
  refine wpAnyH_ready (rs := [1]) (by kernel_rfl) (by simp) ?_
  refine AllReadyH.cons (o := _) rfl (fun K hK => ?_) AllReadyH.nil
  go_simp
  (go_at_call 69; (with_reducible refine (kf.out _ B0.out.drew).mono ?_); rintro e1 w1 ⟨rfl, hb1⟩; have hb1a : Below w0.heap.size w0 w1 := (Below.refl _ _).drew.trans (hb1.mono (Nat.le_refl _)); have B1 := Lib.hid (B0.out.trans (hb1a.mono B0.out.size)); have q01 := (hb1a.cell (p := ⟨w.heap.size + 1, 0, none⟩) hz0).trans q0)
  go_wp2_with fail
  refine hK.out _ _ ?_ (fun hHeld => ?_)
  · exact q01
  clear hK K
  try simp only [Act.put, List.setIfInBounds_toArray, List.set_cons_zero, List.set_cons_succ]
  refine wpAnyH_ready (rs := [4]) (by kernel_rfl) (by simp) ?_
  refine AllReadyH.cons (o := _) rfl (fun K hK => ?_) AllReadyH.nil
  go_simp
  (go_at_call 72; (with_reducible refine (kt.out _ B1.out).mono ?_); rintro e2 w2 ⟨rfl, hb2⟩; have hb2a : Below w0.heap.size w0 w2 := hb1a.trans (hb2.mono hb1a.size); have B2 := Lib.hid (B0.out.trans (hb2a.mono B0.out.size)); have q02 := (hb2a.cell (p := ⟨w.heap.size + 1, 0, none⟩) hz0).trans q0; have R12 := Lib.hid (R1.out.to hb2a); have R22 := Lib.hid (R2.out.to hb2a); have RQ2 := Lib.hid (RQ.out.to hb2a); have hz2 := hb2a.size)
  go_wp2_with fail
  refine hK.out _ _ ?_ (fun hHeld => ?_)
  · exact q02
  clear hK K
  try simp only [Act.put, List.setIfInBounds_toArray, List.set_cons_zero, List.set_cons_succ]
  refine wpAnyH_ready (rs := [5]) (by kernel_rfl) (by simp) ?_
  refine AllReadyH.cons (o := _) rfl (fun K hK => ?_) AllReadyH.nil
  (refine step_store_var rfl 35 (.tmp 2) (.tmp 18) rfl w.heap.size _ (agC A c Stv.zero ⟨g.bank, L, 0, 0, g.la, 0, ss0, g.tk⟩) 32 rfl rfl R12.out size_32 HC.out HG.out (agC_one _) ?_)
  intro w3 r3 k3
  refine hK.out _ _ ?_ (fun hHeld => ?_)
  · exact (k3.cell (p := ⟨w.heap.size + 1, 0, none⟩) (by show w.heap.size + 1 ≠ w.heap.size; omega)).trans q02
  clear hK K
  try simp only [Act.put, List.setIfInBounds_toArray, List.set_cons_zero, List.set_cons_succ]
  refine wpAnyH_done (by kernel_rfl) ?_ _
  have R3 := Lib.hid r3
  have RQ3 := Lib.hid (RQ2.out.only k3 (by omega))
  have R23 := Lib.hid (R22.out.only k3 (by omega))
  have B3 := Lib.hid (k3.to B2.out (Nat.le_refl _))
  have hz3 : w.heap.size + 3 ≤ w3.heap.size := by rw [k3.size]; omega
  clear hb1 hb1a hb2 hb2a q0 q1 q2 q01 q02 r3 k3 R12 R22 RQ2 B1 B2 hz2 R1 R2 RQ B0 hHeld
  have alt : w.heap.size < (w3).heap.size := R3.out.lt
  have alu : w.heap.size < (w3).heap.size + 1 := Nat.lt_succ_of_lt R3.out.lt
  have a0 : (w3).cell? ⟨w.heap.size, 0, none⟩ = some (.slice A g.bank.length c) := R3.out.cells 0
  have az0 : (w3).frozen? ⟨w.heap.size, 0, none⟩ = false := R3.out.frozen 0
  have a1 : (w3).cell? ⟨w.heap.size, 1, none⟩ = some (.int .u16 (L.o : Int)) := R3.out.cells 1
  have az1 : (w3).frozen? ⟨w.heap.size, 1, none⟩ = false := R3.out.frozen 1
  have a2 : (w3).cell? ⟨w.heap.size, 2, none⟩ = some (.int .i64 L.l) := R3.out.cells 2
  have az2 : (w3).frozen? ⟨w.heap.size, 2, none⟩ = false := R3.out.frozen 2
  have a3 : (w3).cell? ⟨w.heap.size, 3, none⟩ = some (.int .u8 0) := R3.out.cells 3
  have az3 : (w3).frozen? ⟨w.heap.size, 3, none⟩ = false := R3.out.frozen 3
  have a4 : (w3).cell? ⟨w.heap.size, 4, none⟩ = some (.int .u32 0) := R3.out.cells 4
  have az4 : (w3).frozen? ⟨w.heap.size, 4, none⟩ = false := R3.out.frozen 4
  have a5 : (w3).cell? ⟨w.heap.size, 5, none⟩ = some (.int .u32 (g.la : Int)) := R3.out.cells 5
  have az5 : (w3).frozen? ⟨w.heap.size, 5, none⟩ = false := R3.out.frozen 5
  have a6 : (w3).cell? ⟨w.heap.size, 6, none⟩ = some (.int .u32 0) := R3.out.cells 6
  have az6 : (w3).frozen? ⟨w.heap.size, 6, none⟩ = false := R3.out.frozen 6
  have qlt : w.heap.size + 1 < (w3).heap.size := RQ3.out.lt
  have qlu : w.heap.size + 1 < (w3).heap.size + 1 := Nat.lt_succ_of_lt RQ3.out.lt
  have q0 : (w3).cell? ⟨w.heap.size + 1, 0, none⟩ = some (.int .u16 (q.ow : Int)) := RQ3.out.cells 0
  have qz0 : (w3).frozen? ⟨w.heap.size + 1, 0, none⟩ = false := RQ3.out.frozen 0
  have q1 : (w3).cell? ⟨w.heap.size + 1, 1, none⟩ = some (.int .u8 (q.v : Int)) := RQ3.out.cells 1
  have qz1 : (w3).frozen? ⟨w.heap.size + 1, 1, none⟩ = false := RQ3.out.frozen 1
  have q2 : (w3).cell? ⟨w.heap.size + 1, 2, none⟩ = some (.int .u32 (q.tx : Int)) := RQ3.out.cells 2
  have qz2 : (w3).frozen? ⟨w.heap.size + 1, 2, none⟩ = false := RQ3.out.frozen 2
  go_upto_region 4 with fail
  refine wp_region_held_drew (S := (fun w' => w'.cell? ⟨w.heap.size + 1, 2, none⟩ = some (.int .u32 (q.tx : Int)))) (by kernel_rfl) ?_ (fun hHeld => ?_)
  · exact q2
  refine takeD (i := 0) (oi := _) (v := ?vv69) (d := some 19) rfl (by kernel_rfl) (by kernel_rfl) (by kernel_rfl) (by kernel_rfl) (fun _ _ _ h => h) (Or.inl ⟨by kernel_rfl, ?_⟩) (by assumption) ?_
  rotate_left 1
  · intro W_ hSw; (try dsimp only at hSw); go_simp; (first | done | with_reducible rfl)
  try simp only [Act.put, List.setIfInBounds_toArray, List.set_cons_zero, List.set_cons_succ]
  refine takeD (i := 1) (oi := _) (v := ?vv70) (d := some 20) rfl (by kernel_rfl) (by kernel_rfl) (by kernel_rfl) (by kernel_rfl) (fun _ _ _ h => h) (Or.inl ⟨by kernel_rfl, ?_⟩) (by assumption) ?_
  rotate_left 1
  · intro W_ hSw; (try dsimp only at hSw); go_simp; (first | done | with_reducible rfl)
  try simp only [Act.put, List.setIfInBounds_toArray, List.set_cons_zero, List.set_cons_succ]
  refine takeD (i := 2) (oi := _) (v := ?vv71) (d := some 21) rfl (by kernel_rfl) (by kernel_rfl) (by kernel_rfl) (by kernel_rfl) (fun _ _ _ h => h) (Or.inl ⟨by kernel_rfl, ?_⟩) (by assumption) ?_
  rotate_left 1
  · intro W_ hSw; (try dsimp only at hSw); go_simp; (first | done | with_reducible rfl)
  try simp only [Act.put, List.setIfInBounds_toArray, List.set_cons_zero, List.set_cons_succ]
  refine takeD (i := 3) (oi := _) (v := ?vv72) (d := some 22) rfl (by kernel_rfl) (by kernel_rfl) (by kernel_rfl) (by kernel_rfl) (fun _ _ _ h => h) (Or.inl ⟨by kernel_rfl, ?_⟩) (by assumption) ?_
  rotate_left 1
  · intro W_ hSw; (try dsimp only at hSw); go_simp; (first | done | with_reducible rfl)
  try simp only [Act.put, List.setIfInBounds_toArray, List.set_cons_zero, List.set_cons_succ]
  refine takeD (i := 4) (oi := _) (v := ?vv73) (d := some 23) rfl (by kernel_rfl) (by kernel_rfl) (by kernel_rfl) (by kernel_rfl) (fun _ _ _ h => h) (Or.inl ⟨by kernel_rfl, ?_⟩) (by assumption) ?_
  rotate_left 1
  · intro W_ hSw; (try dsimp only at hSw); go_simp; (first | done | with_reducible rfl)
  try simp only [Act.put, List.setIfInBounds_toArray, List.set_cons_zero, List.set_cons_succ]
  refine wpAnyH_ready (rs := [5]) (by kernel_rfl) (by simp) ?_
  refine AllReadyH.cons (o := _) rfl (fun K hK => ?_) AllReadyH.nil
  go_simp
  refine hK.out _ _ ?_ (fun hHeld => ?_)
  · exact keep_block (by omega) q2
  clear hK K
  try simp only [Act.put]
  try simp only [List.setIfInBounds_toArray]
  try simp only [List.set_cons_succ]
  try simp only [List.set_cons_zero]
  refine takeD (i := 6) (oi := _) (v := ?vv74) (d := some 24) rfl (by kernel_rfl) (by kernel_rfl) (by kernel_rfl) (by kernel_rfl) (fun _ _ _ h => h) (Or.inl ⟨by kernel_rfl, ?_⟩) (by assumption) ?_
  rotate_left 1
  · intro W_ hSw; (try dsimp only at hSw); go_simp; (first | done | with_reducible rfl)
  try simp only [Act.put, List.setIfInBounds_toArray, List.set_cons_zero, List.set_cons_succ]
  refine wpAnyH_ready (rs := [7]) (by kernel_rfl) (by simp) ?_
  refine AllReadyH.cons (o := _) rfl (fun K hK => ?_) AllReadyH.nil
  go_simp
  refine hK.out _ _ ?_ (fun hHeld => ?_)
  · exact keep_block (by omega) (keep_block (by omega) q2)
  clear hK K
  try simp only [Act.put]
  try simp only [List.setIfInBounds_toArray]
  try simp only [List.set_cons_succ]
  try simp only [List.set_cons_zero]
  refine takeD (i := 8) (oi := _) (v := ?vv75) (d := some 25) rfl (by kernel_rfl) (by kernel_rfl) (by kernel_rfl) (by kernel_rfl) (fun _ _ _ h => h) (Or.inl ⟨by kernel_rfl, ?_⟩) (by assumption) ?_
  rotate_left 1
  · intro W_ hSw; (try dsimp only at hSw); go_simp; (first | done | with_reducible rfl)
  try simp only [Act.put, List.setIfInBounds_toArray, List.set_cons_zero, List.set_cons_succ]
  refine takeD (i := 9) (oi := _) (v := ?vv76) (d := some 26) rfl (by kernel_rfl) (by kernel_rfl) (by kernel_rfl) (by kernel_rfl) (fun _ _ _ h => h) (Or.inl ⟨by kernel_rfl, ?_⟩) (by assumption) ?_
  rotate_left 1
  · intro W_ hSw; (try dsimp only at hSw); go_simp; (first | done | with_reducible rfl)
  try simp only [Act.put, List.setIfInBounds_toArray, List.set_cons_zero, List.set_cons_succ]
  refine wpAnyH_ready (rs := [10]) (by kernel_rfl) (by simp) ?_
  refine AllReadyH.cons (o := _) rfl (fun K hK => ?_) AllReadyH.nil
  go_simp
  refine hK.out _ _ ?_ (fun hHeld => ?_)
  · exact keep_block (by omega) (keep_block (by omega) (keep_block (by omega) q2))
  clear hK K
  try simp only [Act.put]
  try simp only [List.setIfInBounds_toArray]
  try simp only [List.set_cons_succ]
  try simp only [List.set_cons_zero]
  refine wpAnyH_done (by kernel_rfl) ?_ _
  go_upto_region 5 with fail
  obtain ⟨w4, hw4⟩ : ∃ w_q_, w_q_ = (((w3.setCell ⟨w.heap.size, 3, none⟩ (.int .u8 1)).setCell ⟨w.heap.size, 4, none⟩ (.int .u32 (q.tx : Int))).setCell ⟨w.heap.size, 6, none⟩ (.int .u32 (q.tx : Int))).drew := ⟨_, rfl⟩
  rw [← hw4]
  have k4 : Only w.heap.size w3 w4 := by rw [hw4]; exact ((((Only.refl _ _).set _).set _).set _).drew
  have R4 : Hid (RowAt w4 w.heap.size 35 (agC A c (St0 q.tx) ⟨g.bank, L, 1, q.tx, g.la, q.tx, ss0, g.tk⟩)) := Lib.hid (by rw [hw4]; exact (((R3.out.set 3 _).set 4 _).set 6 _).drew)
  replace R23 := Lib.hid (R23.out.only k4 (by omega))
  have B4 := Lib.hid (k4.to B3.out (Nat.le_refl _))
  clear hw4 k4 R3 RQ3 B3
  go_wp2_with (first | (refine wpList_load_var rfl 35 (.tmp 2) rfl (w.heap.size) rfl _ _ 32 R4.out Try.underlying35 rfl size_32 HD.out ?_) | (refine wpList_store_var rfl 35 (.tmp 4) (.tmp 27) rfl (w.heap.size + 2) _ (agC A c (St0 q.tx) ⟨g.bank, L, 1, q.tx, g.la, q.tx, ss0, g.tk⟩) 32 rfl rfl R23.out size_32 (by first | rfl | exact HCO.out) HD.out (agC_one _) ?_; intro w_5 r_5 k_5; have R_5 := Lib.hid r_5; have K_5 := Lib.hid k_5; clear r_5 k_5))
  exact bodyPost_ret (results_cell_row rfl _ _ (w.heap.size + 2) 35 _ (0, 0) _ rfl R_5.out Try.underlying35 rfl (by rw [size_32, List.size_toArray, HD.out])) rfl ⟨rfl, K_5.out.to B4.out (by omega)⟩
theorem AgIs.banked {w : World} {B n c' : Nat} {A' : Option Addr} {bank : List Nat} (h : AgIs A c s g w base) (o : w.ownsRow B 24 1 (.slice A' n c') n (bank.map u16w)) (hn : bank.length = n) (hB : base ≤ B) (hs : n ≤ 35184372088832) (hu : ∀ x ∈ bank, x < 65536) (la : Nat) (hla : la < 4294967296) : AgIs A' c' s ⟨bank, g.l, g.ph, g.tx, la, g.stx, g.S, g.tk⟩ w base := by
  subst hn
  exact ⟨Sq.of_own o, fun p hp => Nat.le_trans hB (o.lt p.block (by rw [hp]; rfl)).1, (own_nil_c o).1, (own_nil_c o).2, own_cap o, hs, hu, h.st, h.o, h.l, h.ph, h.tx, hla, h.tk⟩
theorem AgIs.rebase {w : World} {B : Nat} (h : AgIs A c Stv.zero g w base) (hn : ∀ p, A = some p → B ≤ p.block) : AgIs A c Stv.zero g w B :=
  ⟨h.sq, hn, h.nl, h.len, h.cap, h.small, h.u, ⟨h.st.ok, h.st.tx, h.st.S, (Stv.zero_is w B).new, h.st.ln⟩, h.o, h.l, h.ph, h.tx, h.la, h.tk⟩
theorem agC_commit {bank : List Nat} {A5 : Option Addr} {c5 t : Nat} (h1 : bank.length = 64) : ((agC A c s g).set 0 (.slice A5 64 c5)).set 5 (.int .u32 (t : Int)) = agC A5 c5 s ⟨bank, g.l, g.ph, g.tx, t, g.stx, g.S, g.tk⟩ := by
  unfold agC agL agP
  simp only [h1]
  rfl
set_option maxHeartbeats 1000000 in
theorem agcommit_any (w : World) (h : AgIs A c s g w base) (q : Cmd) (hq : q.Fit) (hbs : base ≤ w.heap.size) (h64 : g.bank.length = 64) (hfit : Bk.fit (ssThere g.S) = true) :
    Calls Try.prog 92 #[.agg (agC A c s g).toArray, .agg (cmdL q).toArray] w (AgB w base (if g.la = q.tx then g else ⟨Bk.over g.bank (ssThere g.S), ⟨0, 0⟩, 0, 0, q.tx, 0, ss0, g.tk⟩)) := by
  obtain ⟨X, hX⟩ : ∃ X, (if g.la = q.tx then g else ⟨Bk.over g.bank (ssThere g.S), ⟨0, 0⟩, 0, 0, q.tx, 0, ss0, g.tk⟩) = X := ⟨_, rfl⟩
  rw [hX]
  have HX := Lib.hid hX
  clear hX
  have kb := Lib.hid (fun W (hW : Below w.heap.size w W) => blocks_S W (h.st.to hW))
  have kv := Lib.hid (fun W (hW : Below w.heap.size w W) (A1 : Option Addr) (c1 : Nat) (bl : List Blk) (hp : prs bl = ssThere g.S) (hB : Blks W W.heap.size A1 bl) (hl : bl.length ≤ c1) (hc : c1 ≤ 9223372036854775807) => over_any A g.bank c g.bank.length A1 bl c1 bl.length W (h.to hW).sq rfl h.nl rfl hB (by omega))
  have HC := Lib.hid h.C32
  have H25 := h.C25
  have HZ : Hid ((Try.prog.info? 33).map (·.size) = some s.C.length) := Lib.hid (by rw [H25]; exact size_25)
  have IS := Lib.hid h
  have H64 := Lib.hid h64
  clear h h64
  go_enter Try.func92, Try.ntmps92
  go_upto_region 1 with fail
  obtain ⟨w0, hw0⟩ : ∃ w_q_, w_q_ = ((w.alloc (.cells (agC A c s g).toArray 35)).alloc (.cells (cmdL q).toArray 41)).alloc (.cells z32 35) := ⟨_, rfl⟩
  rw [← hw0]
  have hin := in_acr w (agC A c s g) (cmdL q)
  rw [← hw0] at hin
  obtain ⟨r1, rq, r2, b0, z0⟩ := hin
  have R1 := Lib.hid r1
  have RQ := Lib.hid rq
  have R2 := Lib.hid r2
  have B0 := Lib.hid b0
  clear hw0 r1 r2 b0 rq
  have alt : w.heap.size < (w0).heap.size := R1.out.lt
  have alu : w.heap.size < (w0).heap.size + 1 := Nat.lt_succ_of_lt R1.out.lt
  have a0 : (w0).cell? ⟨w.heap.size, 0, none⟩ = some (.slice A g.bank.length c) := R1.out.cells 0
  have az0 : (w0).frozen? ⟨w.heap.size, 0, none⟩ = false := R1.out.frozen 0
  have a1 : (w0).cell? ⟨w.heap.size, 1, none⟩ = some (.int .u16 (g.l.o : Int)) := R1.out.cells 1
  have az1 : (w0).frozen? ⟨w.heap.size, 1, none⟩ = false := R1.out.frozen 1
  have a2 : (w0).cell? ⟨w.heap.size, 2, none⟩ = some (.int .i64 g.l.l) := R1.out.cells 2
  have az2 : (w0).frozen? ⟨w.heap.size, 2, none⟩ = false := R1.out.frozen 2
  have a3 : (w0).cell? ⟨w.heap.size, 3, none⟩ = some (.int .u8 (g.ph : Int)) := R1.out.cells 3
  have az3 : (w0).frozen? ⟨w.heap.size, 3, none⟩ = false := R1.out.frozen 3
  have a4 : (w0).cell? ⟨w.heap.size, 4, none⟩ = some (.int .u32 (g.tx : Int)) := R1.out.cells 4
  have az4 : (w0).frozen? ⟨w.heap.size, 4, none⟩ = false := R1.out.frozen 4
  have a5 : (w0).cell? ⟨w.heap.size, 5, none⟩ = some (.int .u32 (g.la : Int)) := R1.out.cells 5
  have az5 : (w0).frozen? ⟨w.heap.size, 5, none⟩ = false := R1.out.frozen 5
  have qlt : w.heap.size + 1 < (w0).heap.size := RQ.out.lt
  have qlu : w.heap.size + 1 < (w0).heap.size + 1 := Nat.lt_succ_of_lt RQ.out.lt
  have q0 : (w0).cell? ⟨w.heap.size + 1, 0, none⟩ = some (.int .u16 (q.ow : Int)) := RQ.out.cells 0
  have qz0 : (w0).frozen? ⟨w.heap.size + 1, 0, none⟩ = false := RQ.out.frozen 0
  have q1 : (w0).cell? ⟨w.heap.size + 1, 1, none⟩ = some (.int .u8 (q.v : Int)) := RQ.out.cells 1
  have qz1 : (w0).frozen? ⟨w.heap.size + 1, 1, none⟩ = false := RQ.out.frozen 1
  have q2 : (w0).cell? ⟨w.heap.size + 1, 2, none⟩ = some (.int .u32 (q.tx : Int)) := RQ.out.cells 2
  have qz2 : (w0).frozen? ⟨w.heap.size + 1, 2, none⟩ = false := RQ.out.frozen 2
  by_cases h1 : g.la = q.tx
  · have g1 : ((g.la : Int) == (q.tx : Int)) = true := by simp [h1]
    obtain rfl : g = X := by rw [← HX.out, if_pos h1]
    clear h1
    go_upto_region 2 with fail
    clear a0 a1 a2 a3 a4 a5 az0 az1 az2 az3 az4 az5 q0 q1 q2 qz0 qz1 qz2
    go_wp2_with (first | (refine wpList_load_var rfl 35 (.tmp 2) rfl (w.heap.size) rfl _ _ 32 R1.out Try.underlying35 rfl size_32 HC.out ?_) | (refine wpList_store_var rfl 35 (.tmp 4) (.tmp 12) rfl (w.heap.size + 2) _ (agC A c s g) 32 rfl rfl R2.out size_32 (by first | rfl | exact HCO.out) HC.out (agC_one _) ?_; intro w_5 r_5 k_5; have R_5 := Lib.hid r_5; have K_5 := Lib.hid k_5; clear r_5 k_5))
    exact bodyPost_ret (results_cell_row rfl _ _ (w.heap.size + 2) 35 _ (0, 0) _ rfl R_5.out Try.underlying35 rfl (by rw [size_32, List.size_toArray, HC.out])) rfl ⟨A, c, s, rfl, (IS.out.to (K_5.out.to B0.out (by omega))), K_5.out.to B0.out (by omega)⟩
  · have g1 : ((g.la : Int) == (q.tx : Int)) = false := beq_eq_false_iff_ne.2 (by omega)
    obtain rfl : (⟨Bk.over g.bank (ssThere g.S), ⟨0, 0⟩, 0, 0, q.tx, 0, ss0, g.tk⟩ : Ag) = X := by rw [← HX.out, if_neg h1]
    clear h1
    go_upto_region 3 with fail
    clear a1 a2 a3 a4 a5 az1 az2 az3 az4 az5 qz0 qz1 qz2 az0 q0 q1 q2
    refine wp_region_held_drew (S := (fun w' => RowAt w' w.heap.size 35 (agC A c s g) ∧ w'.cell? ⟨w.heap.size, 0, none⟩ = some (.slice A g.bank.length c))) (by kernel_rfl) ?_ (fun hHeld => ?_)
    · exact ⟨R1.out, a0⟩
    refine takeD (i := 0) (oi := _) (v := ?vv77) (d := some 14) rfl (by kernel_rfl) (by kernel_rfl) (by kernel_rfl) (by kernel_rfl) (fun _ _ _ h => h) (Or.inl ⟨by kernel_rfl, ?_⟩) (by assumption) ?_
    rotate_left 1
    · intro W_ hSw; (try dsimp only at hSw); go_simp; (first | done | with_reducible rfl)
    try simp only [Act.put, List.setIfInBounds_toArray, List.set_cons_zero, List.set_cons_succ]
    refine takeD (i := 1) (oi := _) (v := ?vv78) (d := some 15) rfl (by kernel_rfl) (by kernel_rfl) (by kernel_rfl) (by kernel_rfl) (fun _ _ _ h => h) (Or.inl ⟨by kernel_rfl, ?_⟩) (by assumption) ?_
    rotate_left 1
    · intro W_ hSw; (try dsimp only at hSw); go_simp; (first | done | with_reducible rfl)
    try simp only [Act.put, List.setIfInBounds_toArray, List.set_cons_zero, List.set_cons_succ]
    refine takeD (i := 2) (oi := _) (v := ?vv79) (d := some 16) rfl (by kernel_rfl) (by kernel_rfl) (by kernel_rfl) (by kernel_rfl) (fun _ _ _ h => h) (Or.inl ⟨by kernel_rfl, ?_⟩) (by assumption) ?_
    rotate_left 1
    · intro W_ hSw; (try dsimp only at hSw); go_simp; (first | done | with_reducible rfl)
    try simp only [Act.put, List.setIfInBounds_toArray, List.set_cons_zero, List.set_cons_succ]
    refine takeD (i := 3) (oi := _) (v := _) (d := some 17) rfl (by kernel_rfl) (by kernel_rfl) (by kernel_rfl) (by kernel_rfl) (fun _ _ _ h => h) (yieldsIf_load_mid (by kernel_rfl) 33 (.tmp 16) (by kernel_rfl) w.heap.size 6 (by kernel_rfl) s.C _ (fun W h => h.1.stage H25) Try.underlying33 rfl HZ.out) (by assumption) ?_
    try simp only [Act.put, List.setIfInBounds_toArray, List.set_cons_zero, List.set_cons_succ]
    refine wpAnyH_ready (rs := [4]) (by kernel_rfl) (by simp) ?_
    refine AllReadyH.cons (o := _) rfl (fun K hK => ?_) AllReadyH.nil
    go_simp
    (go_at_call 17; (with_reducible refine (kb.out _ B0.out.drew).mono ?_); rintro e1 w1 ⟨A1, c1, bl, rfl, hp, hB, hl, hc, hn, hb1⟩; have hb1a : Below w0.heap.size w0 w1 := (Below.refl _ _).drew.trans (hb1.mono (Nat.le_refl _)); have B1 := Lib.hid (B0.out.trans (hb1a.mono B0.out.size)))
    go_wp2_with fail
    refine hK.out _ _ ?_ (fun hHeld => ?_)
    · exact ⟨R1.out.to hb1a, (R1.out.to hb1a).cells 0⟩
    clear hK K
    try simp only [Act.put, List.setIfInBounds_toArray, List.set_cons_zero, List.set_cons_succ]
    refine wpAnyH_ready (rs := [5]) (by kernel_rfl) (by simp) ?_
    refine AllReadyH.cons (o := _) rfl (fun K hK => ?_) AllReadyH.nil
    go_simp
    (go_at_call 16; (with_reducible refine (kv.out _ B1.out _ _ _ hp hB hl hc).mono ?_); rintro e2 w2 ⟨hb2, hov⟩; rw [if_pos H64.out, hp, if_pos hfit] at hov; obtain ⟨A5, c5, rfl, o5⟩ := hov; have hb2a : Below w0.heap.size w0 w2 := hb1a.trans (hb2.mono hb1a.size); have B2 := Lib.hid (B0.out.trans (hb2a.mono B0.out.size)))
    go_wp2_with fail
    refine hK.out _ _ ?_ (fun hHeld => ?_)
    · exact ⟨R1.out.to hb2a, (R1.out.to hb2a).cells 0⟩
    clear hK K
    try simp only [Act.put, List.setIfInBounds_toArray, List.set_cons_zero, List.set_cons_succ]
    refine takeD (i := 6) (oi := _) (v := ?vv80) (d := some 13) rfl (by kernel_rfl) (by kernel_rfl) (by kernel_rfl) (by kernel_rfl) (fun _ _ _ h => h) (Or.inl ⟨by kernel_rfl, ?_⟩) (by assumption) ?_
    rotate_left 1
    · intro W_ hSw; (try dsimp only at hSw); go_simp; (first | done | with_reducible rfl)
    try simp only [Act.put, List.setIfInBounds_toArray, List.set_cons_zero, List.set_cons_succ]
    refine takeD (i := 7) (oi := _) (v := ?vv81) (d := some 20) rfl (by kernel_rfl) (by kernel_rfl) (by kernel_rfl) (by kernel_rfl) (fun _ _ _ h => h) (Or.inl ⟨by kernel_rfl, ?_⟩) (by assumption) ?_
    rotate_left 1
    · intro W_ hSw; (try dsimp only at hSw); go_simp; (first | done | with_reducible rfl)
    try simp only [Act.put, List.setIfInBounds_toArray, List.set_cons_zero, List.set_cons_succ]
    refine takeD (i := 8) (oi := _) (v := ?vv82) (d := some 21) rfl (by kernel_rfl) (by kernel_rfl) (by kernel_rfl) (by kernel_rfl) (fun _ _ _ h => h) (Or.inl ⟨by kernel_rfl, ?_⟩) (by assumption) ?_
    rotate_left 1
    · intro W_ hSw; (try dsimp only at hSw); go_simp; (first | done | with_reducible rfl)
    try simp only [Act.put, List.setIfInBounds_toArray, List.set_cons_zero, List.set_cons_succ]
    refine takeD (i := 9) (oi := _) (v := ?vv83) (d := some 5) rfl (by kernel_rfl) (by kernel_rfl) (by kernel_rfl) (by kernel_rfl) (fun _ _ _ h => h) (Or.inl ⟨by kernel_rfl, ?_⟩) (by assumption) ?_
    rotate_left 1
    · intro W_ hSw; (try dsimp only at hSw); go_simp; (first | done | with_reducible rfl)
    try simp only [Act.put, List.setIfInBounds_toArray, List.set_cons_zero, List.set_cons_succ]
    refine takeD (i := 10) (oi := _) (v := ?vv84) (d := some 6) rfl (by kernel_rfl) (by kernel_rfl) (by kernel_rfl) (by kernel_rfl) (fun _ _ _ h => h) (Or.inl ⟨by kernel_rfl, ?_⟩) (by assumption) ?_
    rotate_left 1
    · intro W_ hSw; (try dsimp only at hSw); go_simp; (first | done | with_reducible rfl)
    try simp only [Act.put, List.setIfInBounds_toArray, List.set_cons_zero, List.set_cons_succ]
    refine wpAnyH_done (by kernel_rfl) ?_ _
    have HO5 := Lib.hid (own_more o5 (show w0.heap.size ≤ _ from hb1a.size))
    have R12 := Lib.hid (R1.out.to hb2a)
    have R22 := Lib.hid (R2.out.to hb2a)
    have RQ2 := Lib.hid (RQ.out.to hb2a)
    have hz2 : w.heap.size + 3 ≤ w2.heap.size := Nat.le_trans z0 hb2a.size
    clear hb1 hb1a hb2 hb2a o5 hp hB hl hc hn B1 a0 R1 R2 RQ
    have alt : w.heap.size < (w2).heap.size := R12.out.lt
    have alu : w.heap.size < (w2).heap.size + 1 := Nat.lt_succ_of_lt R12.out.lt
    have a0 : (w2).cell? ⟨w.heap.size, 0, none⟩ = some (.slice A g.bank.length c) := R12.out.cells 0
    have az0 : (w2).frozen? ⟨w.heap.size, 0, none⟩ = false := R12.out.frozen 0
    have a1 : (w2).cell? ⟨w.heap.size, 1, none⟩ = some (.int .u16 (g.l.o : Int)) := R12.out.cells 1
    have az1 : (w2).frozen? ⟨w.heap.size, 1, none⟩ = false := R12.out.frozen 1
    have a2 : (w2).cell? ⟨w.heap.size, 2, none⟩ = some (.int .i64 g.l.l) := R12.out.cells 2
    have az2 : (w2).frozen? ⟨w.heap.size, 2, none⟩ = false := R12.out.frozen 2
    have a3 : (w2).cell? ⟨w.heap.size, 3, none⟩ = some (.int .u8 (g.ph : Int)) := R12.out.cells 3
    have az3 : (w2).frozen? ⟨w.heap.size, 3, none⟩ = false := R12.out.frozen 3
    have a4 : (w2).cell? ⟨w.heap.size, 4, none⟩ = some (.int .u32 (g.tx : Int)) := R12.out.cells 4
    have az4 : (w2).frozen? ⟨w.heap.size, 4, none⟩ = false := R12.out.frozen 4
    have a5 : (w2).cell? ⟨w.heap.size, 5, none⟩ = some (.int .u32 (g.la : Int)) := R12.out.cells 5
    have az5 : (w2).frozen? ⟨w.heap.size, 5, none⟩ = false := R12.out.frozen 5
    have qlt : w.heap.size + 1 < (w2).heap.size := RQ2.out.lt
    have qlu : w.heap.size + 1 < (w2).heap.size + 1 := Nat.lt_succ_of_lt RQ2.out.lt
    have q0 : (w2).cell? ⟨w.heap.size + 1, 0, none⟩ = some (.int .u16 (q.ow : Int)) := RQ2.out.cells 0
    have qz0 : (w2).frozen? ⟨w.heap.size + 1, 0, none⟩ = false := RQ2.out.frozen 0
    have q1 : (w2).cell? ⟨w.heap.size + 1, 1, none⟩ = some (.int .u8 (q.v : Int)) := RQ2.out.cells 1
    have qz1 : (w2).frozen? ⟨w.heap.size + 1, 1, none⟩ = false := RQ2.out.frozen 1
    have q2 : (w2).cell? ⟨w.heap.size + 1, 2, none⟩ = some (.int .u32 (q.tx : Int)) := RQ2.out.cells 2
    have qz2 : (w2).frozen? ⟨w.heap.size + 1, 2, none⟩ = false := RQ2.out.frozen 2
    go_upto_region 6 with fail
    refine wp_region_held_drew (S := (fun w' => w'.cell? ⟨w.heap.size + 1, 2, none⟩ = some (.int .u32 (q.tx : Int)))) (by kernel_rfl) ?_ (fun hHeld => ?_)
    · exact q2
    refine takeD (i := 0) (oi := _) (v := ?vv85) (d := some 25) rfl (by kernel_rfl) (by kernel_rfl) (by kernel_rfl) (by kernel_rfl) (fun _ _ _ h => h) (Or.inl ⟨by kernel_rfl, ?_⟩) (by assumption) ?_
    rotate_left 1
    · intro W_ hSw; (try dsimp only at hSw); go_simp; (first | done | with_reducible rfl)
    try simp only [Act.put, List.setIfInBounds_toArray, List.set_cons_zero, List.set_cons_succ]
    refine takeD (i := 1) (oi := _) (v := ?vv86) (d := some 26) rfl (by kernel_rfl) (by kernel_rfl) (by kernel_rfl) (by kernel_rfl) (fun _ _ _ h => h) (Or.inl ⟨by kernel_rfl, ?_⟩) (by assumption) ?_
    rotate_left 1
    · intro W_ hSw; (try dsimp only at hSw); go_simp; (first | done | with_reducible rfl)
    try simp only [Act.put, List.setIfInBounds_toArray, List.set_cons_zero, List.set_cons_succ]
    refine takeD (i := 2) (oi := _) (v := ?vv87) (d := some 27) rfl (by kernel_rfl) (by kernel_rfl) (by kernel_rfl) (by kernel_rfl) (fun _ _ _ h => h) (Or.inl ⟨by kernel_rfl, ?_⟩) (by assumption) ?_
    rotate_left 1
    · intro W_ hSw; (try dsimp only at hSw); go_simp; (first | done | with_reducible rfl)
    try simp only [Act.put, List.setIfInBounds_toArray, List.set_cons_zero, List.set_cons_succ]
    refine takeD (i := 3) (oi := _) (v := ?vv88) (d := some 28) rfl (by kernel_rfl) (by kernel_rfl) (by kernel_rfl) (by kernel_rfl) (fun _ _ _ h => h) (Or.inl ⟨by kernel_rfl, ?_⟩) (by assumption) ?_
    rotate_left 1
    · intro W_ hSw; (try dsimp only at hSw); go_simp; (first | done | with_reducible rfl)
    try simp only [Act.put, List.setIfInBounds_toArray, List.set_cons_zero, List.set_cons_succ]
    refine wpAnyH_ready (rs := [4]) (by kernel_rfl) (by simp) ?_
    refine AllReadyH.cons (o := _) rfl (fun K hK => ?_) AllReadyH.nil
    go_simp
    refine hK.out _ _ ?_ (fun hHeld => ?_)
    · exact keep_block (by omega) q2
    clear hK K
    try simp only [Act.put]
    try simp only [List.setIfInBounds_toArray]
    try simp only [List.set_cons_succ]
    try simp only [List.set_cons_zero]
    refine takeD (i := 5) (oi := _) (v := ?vv89) (d := some 29) rfl (by kernel_rfl) (by kernel_rfl) (by kernel_rfl) (by kernel_rfl) (fun _ _ _ h => h) (Or.inl ⟨by kernel_rfl, ?_⟩) (by assumption) ?_
    rotate_left 1
    · intro W_ hSw; (try dsimp only at hSw); go_simp; (first | done | with_reducible rfl)
    try simp only [Act.put, List.setIfInBounds_toArray, List.set_cons_zero, List.set_cons_succ]
    refine wpAnyH_ready (rs := [6]) (by kernel_rfl) (by simp) ?_
    refine AllReadyH.cons (o := _) rfl (fun K hK => ?_) AllReadyH.nil
    go_simp
    refine hK.out _ _ ?_ (fun hHeld => ?_)
    · exact keep_block (by omega) (keep_block (by omega) q2)
    clear hK K
    try simp only [Act.put]
    try simp only [List.setIfInBounds_toArray]
    try simp only [List.set_cons_succ]
    try simp only [List.set_cons_zero]
    refine wpAnyH_done (by kernel_rfl) ?_ _
    go_upto_region 7 with fail
    obtain ⟨w3, hw3⟩ : ∃ w_q_, w_q_ = ((w2.setCell ⟨w.heap.size, 0, none⟩ (.slice A5 64 c5)).setCell ⟨w.heap.size, 5, none⟩ (.int .u32 (q.tx : Int))).drew := ⟨_, rfl⟩
    rw [← hw3]
    have k3 : Only w.heap.size w2 w3 := by rw [hw3]; exact (((Only.refl _ _).set _).set _).drew
    have hol : (Bk.over g.bank (ssThere g.S)).length = 64 := (Bk.over_length _ _).trans H64.out
    have hru : ∀ p ∈ ssThere g.S, ∀ x ∈ p.2, x < 65536 := by
      rw [← IS.out.st.S, ← Stv.there_S]
      intro p hp
      obtain ⟨k, hk, rfl⟩ := List.mem_map.1 hp
      have hk8 : k < 8 := by have := (List.mem_filter.1 hk).1; simpa using this
      obtain ⟨b, hb⟩ : ∃ b, s.bs[k]? = some b := ⟨_, List.getElem?_eq_getElem (by rw [IS.out.st.ok.lb]; exact hk8)⟩
      rw [List.getD_eq_getElem?_getD, prs_get hb]
      exact (IS.out.st.ok.ok b (List.mem_of_getElem? hb)).u
    have B3 := Lib.hid (k3.to B2.out (Nat.le_refl _))
    have hag := (IS.out.to B3.out).banked (k3.own HO5.out (by omega)) hol (show base ≤ w0.heap.size by omega) (by omega) (Bk.over_u16 IS.out.u hru) q.tx hq.tx
    have R3 : Hid (RowAt w3 w.heap.size 35 (agC A5 c5 s ⟨Bk.over g.bank (ssThere g.S), g.l, g.ph, g.tx, q.tx, g.stx, g.S, g.tk⟩)) := Lib.hid (by rw [← agC_commit hol, hw3]; exact ((R12.out.set 0 _).set 5 _).drew)
    have R23 := Lib.hid (R22.out.only k3 (by omega))
    have HC3 := Lib.hid hag.C32
    have HF : Hid ((agC A5 c5 Stv.zero ⟨Bk.over g.bank (ssThere g.S), ⟨0, 0⟩, 0, 0, q.tx, 0, ss0, g.tk⟩).length = 32) := Lib.hid hag.freed.C32
    have kf := Lib.hid (agfreed_any w3 hag)
    have HFR := Lib.hid (hag.freed.rebase (B := w0.heap.size) (fun p hp => (HO5.out.lt p.block (by rw [hp]; rfl)).1))
    have hz3 := k3.size
    clear hw3 k3 hol hru hag a0 a1 a2 a3 a4 a5 az0 az1 az2 az3 az4 az5 q0 q1 q2 qz0 qz1 qz2 R12 R22 RQ2 HO5 B2
    go_wp2_with (refine wpList_load_var rfl 35 (.tmp 2) rfl (w.heap.size) rfl _ _ 32 R3.out Try.underlying35 rfl size_32 HC3.out ?_)
    with_reducible refine (kf.out).mono ?_
    rintro e4 w4 ⟨rfl, hb4⟩
    have R24 := Lib.hid (R23.out.to hb4)
    have B4 := Lib.hid (B3.out.trans (hb4.mono B3.out.size))
    have HFR4 := Lib.hid (HFR.out.to hb4)
    clear hb4 R23 B3 HFR
    go_wp2_with (refine wpList_store_var rfl 35 (.tmp 4) (.tmp 31) rfl (w.heap.size + 2) _ (agC A5 c5 Stv.zero ⟨Bk.over g.bank (ssThere g.S), ⟨0, 0⟩, 0, 0, q.tx, 0, ss0, g.tk⟩) 32 rfl rfl R24.out size_32 (by first | rfl | exact HCO.out) HF.out (agC_one _) ?_; intro w_5 r_5 k_5; have R_5 := Lib.hid r_5; have K_5 := Lib.hid k_5; clear r_5 k_5)
    exact bodyPost_ret (results_cell_row rfl _ _ (w.heap.size + 2) 35 _ (0, 0) _ rfl R_5.out Try.underlying35 rfl (by rw [size_32, List.size_toArray, HF.out])) rfl ⟨A5, c5, _, rfl, (HFR4.out.only K_5.out (by omega)).more (by omega), K_5.out.to B4.out (by omega)⟩
end
end Go.Proofs.Ytajbghjjpebndaa
