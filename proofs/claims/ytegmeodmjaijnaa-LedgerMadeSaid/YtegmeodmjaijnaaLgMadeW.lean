/- Layer 23: the walk of LedgerMade. -/
import Derived.Test.YtegmeodmjaijnaaLgFit
namespace Go.Proofs.Ytegmeodmjaijnaa
open Go.RowKit
set_option linter.unusedVariables false
set_option linter.unusedSimpArgs false
attribute [local go_sem] Later.cell Later.frozen setCell_twice
namespace Jp
/-- how far one job may stand behind another -/
def Adv (j o : Jp) : Prop := j.tx = o.tx ∧ j.who = o.who ∧ j.text = o.text ∧ (j.st = o.st ∨ j.st = 1 ∨ (j.st = 2 ∧ o.st = 4) ∨ (j.st = 3 ∧ o.st = 5))
theorem Adv.refl (j : Jp) : Adv j j := ⟨rfl, rfl, rfl, .inl rfl⟩
theorem Adv.trans {a b c : Jp} (h : Adv a b) (k : Adv b c) : Adv a c := by
  obtain ⟨h1, h2, h3, h4⟩ := h
  obtain ⟨k1, k2, k3, k4⟩ := k
  exact ⟨h1.trans k1, h2.trans k2, h3.trans k3, by omega⟩
def Ext (J L : List Jp) : Prop := J.length ≤ L.length ∧ ∀ (i : Nat) (j : Jp), J[i]? = some j → ∃ o, L[i]? = some o ∧ Adv j o
theorem Ext.refl (J : List Jp) : Ext J J := ⟨Nat.le_refl _, fun i j h => ⟨j, h, Adv.refl j⟩⟩
theorem Ext.trans {A B C : List Jp} (h : Ext A B) (k : Ext B C) : Ext A C := ⟨Nat.le_trans h.1 k.1, fun i j hj => by
  obtain ⟨o, ho, h1⟩ := h.2 i j hj
  obtain ⟨p, hp, h2⟩ := k.2 i o ho
  exact ⟨p, hp, h1.trans h2⟩⟩
theorem step_adv {what : Nat} {yes : Bool} {st s : Nat} (h : step what yes st = some s) : st = 0 ∨ st = 1 ∨ (st = 2 ∧ s = 4) ∨ (st = 3 ∧ s = 5) := by
  unfold step at h
  repeat' split at h
  all_goals first | (cases h; done) | skip
  all_goals (obtain rfl := Option.some.inj h; omega)
theorem put_ext {l m : List Jp} {x : Nr} (hl : Rt l) (h : put l x = some m) : Ext l m := by
  unfold put at h
  split at h
  · cases h
  split at h
  · obtain rfl := Option.some.inj h; exact Ext.refl _
  split at h
  · split at h
    · cases h
    · split at h
      · cases h
      · obtain rfl := Option.some.inj h
        refine ⟨by simp, fun i j hj => ⟨j, ?_, Adv.refl j⟩⟩
        rw [List.getElem?_append_left (List.getElem?_eq_some_iff.1 hj).1]
        exact hj
  · split at h
    · cases h
    · next i hi =>
      split at h
      · cases h
      · next j0 hj0 =>
        split at h
        · cases h
        · next s hst =>
          obtain rfl := Option.some.inj h
          refine ⟨by simp, fun k j hj => ?_⟩
          by_cases hk : i = k
          · subst hk
            rw [hj0] at hj
            obtain rfl := Option.some.inj hj
            refine ⟨⟨j0.tx, j0.who, j0.text, s⟩, by rw [List.getElem?_set_self (List.getElem?_eq_some_iff.1 hj0).1], rfl, rfl, rfl, ?_⟩
            have h1 := (hl.2 j0 (List.mem_of_getElem? hj0)).2.2.2.1
            have h2 := step_adv hst
            dsimp only
            omega
          · exact ⟨j, by rw [List.getElem?_set_ne hk]; exact hj, Adv.refl j⟩
theorem makeFrom_ext {l m : List Jp} (r : List Nr) (hl : Rt l) (h : makeFrom l r = some m) : Ext l m := by
  induction r generalizing l with
  | nil => obtain rfl := Option.some.inj h; exact Ext.refl _
  | cons x r ih =>
    rw [makeFrom] at h
    split at h
    · cases h
    · next m' hm => exact (put_ext hl hm).trans (ih (put_rt hl hm) h)
theorem make_some {r : List Nr} {L : List Jp} (h : make r = some L) (k : Nat) : ∃ J, make (r.take k) = some J ∧ Ext J L := by
  unfold make at h ⊢
  rw [← List.take_append_drop k r, makeFrom_append] at h
  cases hj : makeFrom [] (r.take k) with
  | none => rw [hj] at h; cases h
  | some J =>
    rw [hj, Option.bind_some] at h
    exact ⟨J, rfl, makeFrom_ext _ (make_rt (r := r.take k) hj) h⟩
def plain (r : List Nr) : List Nr := r.filter fun x => decide (x.what ≠ 1)
theorem plain_snoc {l : List Nr} {k : Nat} {x : Nr} (h : l[k]? = some x) : plain (l.take (k + 1)) = plain (l.take k) ++ (if x.what = 1 then [] else [x]) := by
  unfold plain
  rw [List.take_add_one, h, Option.toList, List.filter_append]
  by_cases hx : x.what = 1 <;> simp [hx, List.filter_cons]
theorem makeFrom_plain (r : List Nr) {l m : List Jp} (h : makeFrom l r = some m) : makeFrom l (plain r) = some m := by
  induction r generalizing l with
  | nil => exact h
  | cons x r ih =>
    rw [makeFrom] at h
    split at h
    · cases h
    · next m' hm =>
      by_cases hx : x.what = 1
      · have : m' = l := by
          unfold put at hm
          split at hm
          · cases hm
          · first
              | exact (Option.some.inj hm).symm
              | (rw [if_pos hx] at hm; exact (Option.some.inj hm).symm)
        subst this
        rw [show plain (x :: r) = plain r by simp [plain, List.filter_cons, hx]]
        exact ih h
      · rw [show plain (x :: r) = x :: plain r by simp [plain, List.filter_cons, hx], makeFrom, hm]
        exact ih h
end Jp
theorem sliced_zero' (a : Option Addr) (h m s : Nat) : sliced a 0 h m s = .slice a h m := by
  unfold sliced
  rw [Nat.zero_mul, Nat.sub_zero, Nat.sub_zero]
  cases a with
  | none => simp
  | some p => split <;> rfl
attribute [local go_sem high] sliced_zero'
set_option maxRecDepth 100000 in
set_option maxHeartbeats 4000000 in
theorem ledgerMade_any (A : Option Addr) (l : List Rc) (cl nl at8 : Nat) (w : World) (hnl : l.length = nl) (hl : Rcs w w.heap.size A l) (hat : at8 < 256) :
    Calls Try.prog 5 #[.slice A nl cl, .int .u8 (at8 : Int)] w fun e w' => e = .returned (.bool true) ∧ Below w.heap.size w w' := by
  obtain ⟨iR, hifR, hr0, hr1, hr2⟩ := info_parts info_record
  have HL := Lib.hid hl
  have HNL := Lib.hid hnl
  clear hl hnl
  go_enter Try.func5, Try.ntmps5
  go_wp2_with fail
  refine (light_any A none l [] cl 0 nl 0 w HNL.out rfl HL.out Jbs.nil).mono ?_
  rintro e w1 ⟨r1, rfl, b1, h1⟩
  have B1 := Lib.hid b1
  clear b1
  cases r1
  · have BX := B1
    go_wp2_with fail
    refine (awake_any _).mono ?_
    rintro e w9 ⟨rfl, b9⟩
    have B9 := Lib.hid (BX.out.trans (b9.mono BX.out.size))
    clear b9
    go_wp2
    go_ret
    exact ⟨rfl, B9.out⟩
  have LT1 := Lib.hid (h1.out rfl)
  have h80l : nl ≤ 80 := by rw [← HNL.out]; exact LT1.out.ln
  clear h1
  go_wp2_with fail
  refine (fitting_made A nl cl l w1 (HL.out.to B1.out) HNL.out h80l LT1.out.lt).mono ?_
  intro e w2 h2
  obtain ⟨A2, n2, c2, A3, n3, c3, fl, jl, rfl, b2, h2⟩ := h2
  have B2 := Lib.hid (B1.out.trans (b2.mono B1.out.size))
  have HFL := Lib.hid h2.out.1
  have HMK : Hid (Jp.make (fl.map Rc.p) = some (jps jl)) := Lib.hid (by rw [h2.out.2.1, h2.out.2.2.1]; exact Jp.fits_make _)
  have RF := Lib.hid h2.out.2.2.2.1
  have JJ := Lib.hid h2.out.2.2.2.2.1.jbs
  have HJL := Lib.hid h2.out.2.2.2.2.1.len
  have hn2 : n2 ≤ 80 := Nat.le_trans h2.out.2.2.2.2.2.1 (by rw [HNL.out]; exact h80l)
  have hn3 : n3 ≤ 80 := Nat.le_trans h2.out.2.2.2.2.2.2.1 (by rw [HNL.out]; exact h80l)
  have HSF : Hid (∀ y ∈ fl, y.p.text.length ≤ 1000000) := Lib.hid (fun y hy => by have := LT1.out.lt y (h2.out.2.2.2.2.2.2.2.1 y hy); omega)
  have hc2 : n2 ≤ c2 := h2.out.2.2.2.2.2.2.2.2.2.1
  have hc2m : c2 ≤ 9223372036854775807 := h2.out.2.2.2.2.2.2.2.2.2.2
  have HA2 : Hid (A2 = none → c2 = 0) := Lib.hid h2.out.2.2.2.2.2.2.2.2.1
  clear b2 h2 B1
  go_wp2_with fail
  refine (jmake_any A2 n2 c2 fl w2 RF.out HFL.out (by omega) HSF.out).mono ?_
  intro e w3 h3
  obtain ⟨A4, n4, c4, jl4, rfl, b3, h4, J4⟩ := h3.yes_form HMK.out
  have H4 := Lib.hid h4
  have B3 := Lib.hid (B2.out.trans (b3.mono B2.out.size))
  have RF3 := Lib.hid (RF.out.to b3)
  have JJ3 := Lib.hid (JJ.out.to b3)
  clear b3 h3 h4 B2 RF JJ
  obtain ⟨kk, hkk⟩ : ∃ kk, at8 % (n2 + 1) = kk := ⟨_, rfl⟩
  have hkn : kk ≤ n2 := by have := Nat.mod_lt at8 (show 0 < n2 + 1 by omega); omega
  have hmod : (at8 : Int) % ((n2 : Int) + 1) = (kk : Int) := by rw [← hkk]; simp
  have hkkI : (kk : Int) ≤ (n2 : Int) := by omega
  obtain ⟨J, hJ1, hJ2⟩ := Jp.make_some HMK.out kk
  have HJ1 : Hid (Jp.make ((fl.take kk).map Rc.p) = some J) := Lib.hid (by rw [List.map_take]; exact hJ1)
  have HJ2 := Lib.hid hJ2
  clear hkk hJ1 hJ2
  have HTL : Hid ((fl.take kk).length = kk) := Lib.hid (by rw [List.length_take, HFL.out]; omega)
  go_wp2_with fail
  refine (jmake_any A2 kk c2 (fl.take kk) w3 (RF3.out.take kk) HTL.out (by omega) (fun y hy => HSF.out y (List.mem_of_mem_take hy))).mono ?_
  intro e w4 h4
  obtain ⟨A5, n5, c5, jl5, rfl, b4, h5, J5⟩ := h4.yes_form HJ1.out
  have H5 := Lib.hid h5
  have hn45 : n5 ≤ n4 := by
    have h := HJ2.out.1
    rw [← H5.out, ← H4.out, jps, jps, List.length_map, List.length_map, J5.out.len, J4.out.len] at h
    exact h
  have hn4 : n4 ≤ 80 := by
    have h := congrArg List.length H4.out
    rw [jps, jps, List.length_map, List.length_map, J4.out.len, HJL.out] at h
    omega
  have B4 := Lib.hid (B3.out.trans (b4.mono B3.out.size))
  have RF4 := Lib.hid (RF3.out.to b4)
  have JJ4 := Lib.hid (JJ3.out.to b4)
  have JA4 := Lib.hid (J4.out.jbs.to b4)
  have JS4 := Lib.hid J5.out.jbs
  have HA4L := Lib.hid J4.out.len
  have HS5L := Lib.hid J5.out.len
  clear b4 h4 h5 B3 RF3 JJ3 J4 J5
  go_wp2
  go_loopw [13, 53] (fun v i wr => ∃ (k : Nat) (A' : Option Addr) (n' c' : Nat) (pl : List Rc), k ≤ n2 ∧ n' ≤ k ∧ i = .int .i64 k ∧ v = .slice A' n' c' ∧ Hid (pl.length = n' ∧ pl.map Rc.p = Jp.plain ((fl.map Rc.p).take k) ∧ wr.ownsRow w4.heap.size 31 5 (.slice A' n' c') n' (pl.flatMap recK.f) ∧ (∀ y ∈ pl, y ∈ fl) ∧ Below w4.heap.size w4 wr)) (fun _ i _ => n2 - (intOf i).toNat)
  case atStart => exact ⟨0, none, 0, 0, [], by omega, by omega, rfl, rfl, Lib.hid ⟨rfl, rfl, by simpa using World.ownsRow_nil w4 w4.heap.size 31 5, by simp, Below.refl _ _⟩⟩
  case round =>
    rename World => wr
    obtain ⟨k, A', n', c', pl, hk, hn', rfl, rfl, hh⟩ := hrel
    have HPL := Lib.hid hh.out.1
    have HPM := Lib.hid hh.out.2.1
    have OW := Lib.hid hh.out.2.2.1
    have HPS := Lib.hid hh.out.2.2.2.1
    have BE := Lib.hid hh.out.2.2.2.2
    have hbw : w4.heap.size ≤ wr.heap.size := BE.out.size
    clear hh
    by_cases hlt : k < n2
    · obtain ⟨g1, o1, x, rfl, hg1, hx, hxo, hx0, hx1, hx2, hx3, hx4⟩ := (RF4.out.to BE.out).at_ (k := k) (by rw [HFL.out]; exact hlt)
      have hltI : (k : Int) < (n2 : Int) := by omega
      have h0I : (0 : Int) ≤ (k : Int) := by omega
      have HX : Hid ((fl.map Rc.p)[k]? = some x.p) := Lib.hid (by rw [List.getElem?_map, hx]; rfl)
      have HXM : Hid (x ∈ fl) := Lib.hid (List.mem_of_getElem? hx)
      have HSN := Lib.hid (Jp.plain_snoc HX.out)
      have hgr : g1 < wr.heap.size := hg1
      obtain ⟨⟨what, tx, who, yes, text⟩, XA, xc⟩ := x
      dsimp only at hx0 hx1 hx2 hx3 hx4 HSN
      obtain ⟨m, hm⟩ : ∃ m, text.length = m := ⟨_, rfl⟩
      have HM := Lib.hid hm
      rw [hm] at hx4
      clear hx hxo hm HX
      by_cases h1 : what = 1
      · have h1I : ((what : Int) == 1) = true := by subst h1; rfl
        have h1J : ((what : Int) != 1) = false := by subst h1; rfl
        have HS1 : Hid (pl.map Rc.p = Jp.plain ((fl.map Rc.p).take (k + 1))) := Lib.hid (by rw [HSN.out, if_pos h1, List.append_nil, HPM.out])
        clear h1
        go_wp2
        go_roundw
        case rel => exact ⟨k + 1, A', n', c', pl, by omega, by omega, by go_num, rfl, Lib.hid ⟨HPL.out, HS1.out, own_below OW.out (bel_alloc (Below.refl _ _) _), HPS.out, bel_alloc BE.out _⟩⟩
        case measure => simp [intOf]; omega
      · have h1I : ((what : Int) == 1) = false := beq_eq_false_iff_ne.2 (by omega)
        have h1J : ((what : Int) != 1) = true := bne_iff_ne.2 (by omega)
        have HS1 : Hid (pl.map Rc.p ++ [⟨what, tx, who, yes, text⟩] = Jp.plain ((fl.map Rc.p).take (k + 1))) := Lib.hid (by rw [HSN.out, if_neg h1, HPM.out])
        clear h1
        go_wp2_with (at_builtin; (refine wpList_append_rn (f := recK.f) (s := 5) _ rfl (.tmp 60) (.tmp 62) 22 rfl recK_fine.hf (by decide) recK_fine.one w4.heap.size 31 iR _ _ Try.underlying22 hifR hr0 hr1 hr2 (by decide) rfl A' c' n' pl rfl HPL.out (own_below OW.out (bel_alloc (bel_alloc (Below.refl _ _) _) _)) (wr.heap.size + 2) _ [⟨⟨what, tx, who, yes, text⟩, XA, xc⟩] 1 1 rfl rfl (Recs.lits (f := recK.f) (s := 5) recK_fine.hf (by decide) _ _ _ _ _ _ (by simp [HM.out]) (by simp) (by simp)) (by simp) (n' + 1) rfl (by omega) (by simp; omega) ?_); intro A6 c6 w6 o6 g6 b6; have O6 := Lib.hid o6; have B6 : Hid (Below w4.heap.size w4 w6) := Lib.hid ((bel_alloc (bel_alloc BE.out _) _).trans b6); clear o6 g6 b6)
        have HS6 : Hid (∀ y ∈ pl ++ [(⟨⟨what, tx, who, yes, text⟩, XA, xc⟩ : Rc)], y ∈ fl) := Lib.hid (by
          intro y hy
          rcases List.mem_append.1 hy with hy | hy
          · exact HPS.out y hy
          · obtain rfl := List.mem_singleton.1 hy; exact HXM.out)
        go_wp2
        go_roundw
        case rel => exact ⟨k + 1, A6, n' + 1, c6, pl ++ [⟨⟨what, tx, who, yes, text⟩, XA, xc⟩], by omega, by omega, by go_num, rfl, Lib.hid ⟨by rw [List.length_append, HPL.out]; rfl, by rw [← HS1.out, List.map_append]; rfl, O6.out, HS6.out, B6.out⟩⟩
        case measure => simp [intOf]; omega
    · obtain rfl : k = n2 := by omega
      have HPA : Hid (Jp.make (pl.map Rc.p) = some (jps jl)) := Lib.hid (by
        rw [HPM.out, List.take_of_length_le (by rw [List.length_map, HFL.out]; exact Nat.le_refl _)]
        exact Jp.makeFrom_plain _ HMK.out)
      have RP : Hid (Rcs wr wr.heap.size A' pl) := Lib.hid ⟨Recs.of_own recK_fine.hf (by decide) OW.out, fun b hb => ((RF4.out.ok b (HPS.out b hb)).below BE.out).more BE.out.size⟩
      have BR : Hid (Below w.heap.size w wr) := Lib.hid (B4.out.trans (BE.out.mono B4.out.size))
      have JJR := Lib.hid (JJ4.out.to BE.out)
      have JAR := Lib.hid (JA4.out.to BE.out)
      have JSR := Lib.hid (JS4.out.to BE.out)
      clear OW BE B4 JJ4 JA4 JS4 hlt
      go_wp2_with fail
      refine (jmake_any A' n' c' pl wr RP.out HPL.out (by omega) (fun y hy => HSF.out y (HPS.out y hy))).mono ?_
      intro e w7 h7
      obtain ⟨A7, n7, c7, jl7, rfl, b7, h7', J7⟩ := h7.yes_form HPA.out
      have H7 := Lib.hid h7'
      have hn7 : n7 ≤ 80 := by
        have h := congrArg List.length H7.out
        rw [jps, jps, List.length_map, List.length_map, J7.out.len, HJL.out] at h
        omega
      have B7 := Lib.hid (BR.out.trans (b7.mono BR.out.size))
      have JJ7 := Lib.hid (JJR.out.to b7)
      have JA7 := Lib.hid (JAR.out.to b7)
      have JS7 := Lib.hid (JSR.out.to b7)
      have HQ1 : Hid (Jp.eqs (jps jl4) (jps jl) = true) := Lib.hid (by rw [H4.out]; exact Jp.eqs_self _)
      have HQ2 : Hid (Jp.eqs (jps jl7) (jps jl) = true) := Lib.hid (by rw [H7.out]; exact Jp.eqs_self _)
      clear b7 h7 h7' BR JJR JAR JSR
      go_wp2_with fail
      refine (jsame_any A4 A3 jl4 jl c4 c3 n4 n3 w7 HA4L.out HJL.out JA7.out JJ7.out (by omega)).mono ?_
      rintro e w8 ⟨rfl, b8⟩
      rw [HQ1.out]
      have B8 := Lib.hid (B7.out.trans (b8.mono B7.out.size))
      have JJ8 := Lib.hid (JJ7.out.to b8)
      have JA8 := Lib.hid (JA7.out.to b8)
      have JS8 := Lib.hid (JS7.out.to b8)
      have JP8 := Lib.hid (J7.out.jbs.to b8)
      clear b8 B7 JJ7 JA7 JS7
      go_wp2_with fail
      refine (jsame_any A7 A3 jl7 jl c7 c3 n7 n3 w8 J7.out.len HJL.out JP8.out JJ8.out (by omega)).mono ?_
      rintro e w10 ⟨rfl, b10⟩
      rw [HQ2.out]
      have B10 := Lib.hid (B8.out.trans (b10.mono B8.out.size))
      have JA10 := Lib.hid (JA8.out.to b10)
      have JS10 := Lib.hid (JS8.out.to b10)
      clear b10 B8 JJ8 JA8 JS8 JP8
      have hn45I : ¬ (n4 : Int) < (n5 : Int) := by omega
      go_wp2
      go_loopw [101] (fun i wq => ∃ q : Nat, q ≤ n5 ∧ i = .int .i64 (q : Int) ∧ Hid (Below w10.heap.size w10 wq)) (fun i _ => n5 - (intOf i).toNat)
      case atStart => exact ⟨0, by omega, rfl, Lib.hid (Below.refl _ _)⟩
      case round =>
        rename World => wq
        obtain ⟨q, hq, rfl, BQ⟩ := hrel
        by_cases hlt : q < n5
        · obtain ⟨g1, o1, y, rfl, hg1, hy, hyo, hy0, hy1, hy2, hy3⟩ := (JS10.out.to BQ.out).at_ (k := q) (by rw [HS5L.out]; exact hlt)
          obtain ⟨g2, o2, z, rfl, hg2, hz, hzo, hz0, hz1, hz2, hz3⟩ := (JA10.out.to BQ.out).at_ (k := q) (by rw [HA4L.out]; omega)
          have hltI : (q : Int) < (n5 : Int) := by omega
          have hltI4 : (q : Int) < (n4 : Int) := by omega
          have h0I : (0 : Int) ≤ (q : Int) := by omega
          have HADV : Hid (Jp.Adv y.p z.p ∧ 1 ≤ y.p.st ∧ y.p.st ≤ 5 ∧ 1 ≤ z.p.st ∧ z.p.st ≤ 5) := Lib.hid (by
            have hyp : J[q]? = some y.p := by rw [← H5.out, jps, List.getElem?_map, hy]; rfl
            have hzp : (jps jl)[q]? = some z.p := by rw [← H4.out, jps, List.getElem?_map, hz]; rfl
            obtain ⟨o, ho, ha⟩ := HJ2.out.2 q y.p hyp
            rw [hzp] at ho
            obtain rfl := Option.some.inj ho
            have h1 := ((Jp.make_rt HJ1.out).2 y.p (List.mem_of_getElem? hyp)).2.2.2
            have h2 := ((Jp.make_rt HMK.out).2 z.p (List.mem_of_getElem? hzp)).2.2.2
            exact ⟨ha, h1.1, h1.2, h2.1, h2.2⟩)
          have hgr1 : g1 < wq.heap.size := hg1
          have hgr2 : g2 < wq.heap.size := hg2
          have hgr3 : g2 < wq.heap.size + 1 := by omega
          obtain ⟨⟨ytx, ywho, ytext, yst⟩, YA, yc⟩ := y
          obtain ⟨⟨ztx, zwho, ztext, zst⟩, ZA, zc⟩ := z
          obtain ⟨⟨e1, e2, e3, e4⟩, l1, l2, l3, l4⟩ := HADV.out
          dsimp only at hy0 hy1 hy2 hy3 hz0 hz1 hz2 hz3 e1 e2 e3 e4 l1 l2 l3 l4
          subst e1 e2 e3
          have BX : Hid (Below w.heap.size w wq) := Lib.hid (B10.out.trans (BQ.out.mono B10.out.size))
          clear hy hyo hz hzo HADV
          have key : (yst = 1 ∧ zst = 1) ∨ (yst = 1 ∧ zst = 2) ∨ (yst = 1 ∧ zst = 3) ∨ (yst = 1 ∧ zst = 4) ∨ (yst = 1 ∧ zst = 5) ∨ (yst = 2 ∧ zst = 2) ∨ (yst = 2 ∧ zst = 4) ∨ (yst = 3 ∧ zst = 3) ∨ (yst = 3 ∧ zst = 5) ∨ (yst = 4 ∧ zst = 4) ∨ (yst = 5 ∧ zst = 5) := by omega
          clear e4 l1 l2 l3 l4
          rcases key with ⟨rfl, rfl⟩ | ⟨rfl, rfl⟩ | ⟨rfl, rfl⟩ | ⟨rfl, rfl⟩ | ⟨rfl, rfl⟩ | ⟨rfl, rfl⟩ | ⟨rfl, rfl⟩ | ⟨rfl, rfl⟩ | ⟨rfl, rfl⟩ | ⟨rfl, rfl⟩ | ⟨rfl, rfl⟩
          all_goals
            go_wp2
            go_roundw
            case rel => exact ⟨q + 1, by omega, by go_num, Lib.hid (bel_alloc (bel_alloc BQ.out _) _)⟩
            case measure => simp [intOf]; omega
        · obtain rfl : q = n5 := by omega
          have BX : Hid (Below w.heap.size w wq) := Lib.hid (B10.out.trans (BQ.out.mono B10.out.size))
          go_wp2_with fail
          refine (awake_any _).mono ?_
          rintro e w9 ⟨rfl, b9⟩
          have B9 := Lib.hid (BX.out.trans (b9.mono BX.out.size))
          clear b9
          go_wp2
          go_ret
          exact ⟨rfl, B9.out⟩
end Go.Proofs.Ytegmeodmjaijnaa
