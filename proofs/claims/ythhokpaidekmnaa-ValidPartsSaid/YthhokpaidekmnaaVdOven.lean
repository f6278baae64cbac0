/- Layer 15: oven, asks. -/
import Derived.Test.YthhokpaidekmnaaVdChk
namespace Go.Proofs.Ythhokpaidekmnaa
open Go.RowKit
set_option linter.unusedVariables false
set_option linter.unusedSimpArgs false
set_option maxRecDepth 100000
attribute [local go_sem] Later.cell Later.frozen setCell_twice
abbrev temp : Pt := ⟨⟨#[116, 101, 109, 112]⟩, 3, 1, false, ⟨0, 0⟩, ⟨250, 0⟩, ⟨#[67]⟩⟩
abbrev ovenD (g : Nat) : Dv := ⟨⟨#[111, 118, 101, 110]⟩, [temp], some ⟨g, 0, none⟩, 1⟩
theorem recs_one {α : Type} {f : α → List Value} {s : Nat} {w : World} {B g : Nat} {T : TypeId} {a : α} (h : RowAt w g T (f a)) (hg : g < B) (hf : (f a).length = s) : Recs f s w B (some ⟨g, 0, none⟩) [a] := fun _ => by
 refine ⟨g, 0, rfl, hg, fun j x hx i v hv => ?_⟩
 have hj : j = 0 := by
  have := (List.getElem?_eq_some_iff.1 hx).1
  simpa using this
 subst hj
 obtain rfl : a = x := by simpa using hx
 rw [Nat.zero_mul, Nat.zero_add, Nat.zero_add]
 exact h.cell hv
theorem temp_fit : temp.Fit := by
 refine ⟨⟨by decide, by decide⟩, ⟨by decide, by decide⟩, ⟨by decide, by decide, by decide⟩, ⟨by decide, by decide, by decide⟩⟩
/-- what oven answers -/
def OvenP (w : World) (e : Ending) (w' : World) : Prop :=
 ∃ g k, e = .returned (.slice (some ⟨g, 0, none⟩) 1 1) ∧ Tab w' w'.heap.size (some ⟨g, 0, none⟩) [ovenD k] ∧ RowAt w' g 39 (dvF (ovenD k)) ∧ RowAt w' k 43 (ptF temp) ∧ Below w.heap.size w w'
theorem oven_any (w : World) : Calls Try.prog 24 #[] w (OvenP w) := by
 go_enter Try.func24, Try.ntmps24
 go_wp2
 go_ret
 have R1 := (RowAt.new' w w.heap.size 43 (ptF temp) rfl).alloc (.cells (dvF (ovenD w.heap.size)).toArray 39)
 have R2 := RowAt.new' (w.alloc (.cells (ptF temp).toArray 43)) (w.heap.size + 1) 39 (dvF (ovenD w.heap.size)) (by simp)
 refine ⟨w.heap.size + 1, w.heap.size, rfl, ⟨recs_one (f := dvF) R2 (by simp) rfl, fun d hd => ?_⟩, R2, R1, belo⟩
 obtain rfl : d = ovenD w.heap.size := by simpa using hd
 exact ⟨recs_one (f := ptF) R1 (by simp; omega) rfl, fun p hp => by
  obtain rfl : p = temp := by simpa using hp
  exact temp_fit, ⟨Nat.le_refl _, (show 1 ≤ 9223372036854775807 by decide), fun h => by cases h⟩⟩
/-- with line 7 -/
def set7 (s : St) : St := { s with line := 7 }
def l7 (L : List St) (j : Nat) : List St := (L.take j).map set7 ++ L.drop j
theorem l7_zero (L : List St) : l7 L 0 = L := by simp [l7]
theorem l7_all (L : List St) : l7 L L.length = L.map set7 := by simp [l7]
theorem flat_len (L : List St) : (L.flatMap stF).length = L.length * 5 := by
 induction L with
 | nil => rfl
 | cons a l ih => rw [List.flatMap_cons, List.length_append, ih, List.length_cons]; simp; omega
theorem l7_step {L : List St} {j : Nat} (hj : j < L.length) : ((l7 L j).flatMap stF).set (j * 5 + 4) (.int .i64 7) = (l7 L (j + 1)).flatMap stF ∧ ∃ v, ((l7 L j).flatMap stF)[j * 5 + 4]? = some v := by
 have hl : ((L.take j).map set7).length = j := by simp; omega
 have e0 : L.drop j = L[j] :: L.drop (j + 1) := List.drop_eq_getElem_cons hj
 have e1 : l7 L (j + 1) = (L.take j).map set7 ++ (set7 L[j] :: L.drop (j + 1)) := by
  unfold l7
  rw [List.take_add_one, List.getElem?_eq_getElem hj, List.map_append, List.append_assoc]
  rfl
 obtain ⟨X, hX⟩ : ∃ X, (L.take j).map set7 = X := ⟨_, rfl⟩
 rw [e1]
 unfold l7
 rw [e0]
 rw [hX] at hl ⊢
 rw [List.flatMap_append, List.flatMap_append, List.flatMap_cons, List.flatMap_cons]
 have hf := flat_len X
 rw [hl] at hf
 constructor
 ·rw [List.set_append, if_neg (by omega), hf, show j * 5 + 4 - j * 5 = 4 by omega]
  rfl
 ·rw [List.getElem?_append_right (by omega), hf, show j * 5 + 4 - j * 5 = 4 by omega]
  exact ⟨_, rfl⟩
/-- what asks answers -/
def askE (k b : Nat) (L : List St) (n : Nat) : Int :=
 if (Vd.check [ovenD k] ⟨#[97]⟩ [⟨⟨#[111, 118, 101, 110]⟩, 0, L, some ⟨b, 0, none⟩, n⟩]).1 ≠ 0 ∧ (Vd.check [ovenD k] ⟨#[97]⟩ [⟨⟨#[111, 118, 101, 110]⟩, 0, L, some ⟨b, 0, none⟩, n⟩]).2 ≠ 7 then -1
 else ((Vd.check [ovenD k] ⟨#[97]⟩ [⟨⟨#[111, 118, 101, 110]⟩, 0, L, some ⟨b, 0, none⟩, n⟩]).1 : Int)
theorem flat_get {L : List St} {j i : Nat} {s : St} {v : Value} (hj : L[j]? = some s) (hi : (stF s)[i]? = some v) : (L.flatMap stF)[j * 5 + i]? = some v := by
 induction L generalizing j with
 | nil => simp at hj
 | cons a l ih =>
  have hi5 : i < 5 := by have := (List.getElem?_eq_some_iff.1 hi).1; simpa using this
  rw [List.flatMap_cons]
  cases j with
  | zero =>
   obtain rfl : a = s := by simpa using hj
   rw [List.getElem?_append_left (by simp; omega), Nat.zero_mul, Nat.zero_add]
   exact hi
  | succ j =>
   rw [List.getElem?_append_right (by simp; omega), show (j + 1) * 5 + i - (stF a).length = j * 5 + i by simp; omega]
   exact ih (by simpa using hj)
set_option maxHeartbeats 4000000 in
theorem asks_any (b n : Nat) (L : List St) (w : World) (hn : L.length = n) (hn8 : n ≤ 64) (hR : RowAt w b 48 (L.flatMap stF)) (hF : ∀ s ∈ L, s.Fit) (res : Int) (hres : ∀ k, askE k b (L.map set7) n = res) :
  Calls Try.prog 25 #[.slice (some ⟨b, 0, none⟩) n n] w fun e w' => e = .returned (.int .i64 res) ∧ Fr1 b w w' := by
 have HN := Lib.hid hn
 have HR := Lib.hid hR
 have HF := Lib.hid hF
 have RES := Lib.hid hres
 clear hn hR hF hres
 go_enter Try.func25, Try.ntmps25
 go_wp2
 go_loopw [7] (fun x wr => ∃ j : Nat, j ≤ n ∧ x = .int .i64 (j : Int) ∧ Hid (RowAt wr b 48 ((l7 L j).flatMap stF)) ∧ Hid (Fr1 b w wr)) (fun i _ => n - (RowKit.intOf i).toNat)
 case atStart => exact ⟨0, by omega, rfl, Lib.hid (by rw [l7_zero]; exact HR.out), Lib.hid (Fr1.of_below (Below.refl _ _))⟩
 case round =>
  rename World => wr
  obtain ⟨j, hj, rfl, RW, FW⟩ := hrel
  by_cases hlt : j < n
  ·have hltI : (j : Int) < (n : Int) := by omega
   obtain ⟨st1, v, hv⟩ := l7_step (L := L) (j := j) (by rw [HN.out]; exact hlt)
   have c0 : wr.cell? ⟨b, j * 5 + 4, none⟩ = some v := RW.out.cell hv
   have z0 : wr.frozen? ⟨b, j * 5 + 4, none⟩ = false := RW.out.frozen _
   have lb : b < wr.heap.size := RW.out.lt
   have RW2 := Lib.hid (RW.out.set (j * 5 + 4) (.int .i64 7))
   rw [st1] at RW2
   have FW2 : Hid (Fr1 b w (wr.setCell ⟨b, j * 5 + 4, none⟩ (.int .i64 7))) := Lib.hid (FW.out.trans ⟨rfl, rfl, rfl, by simp [World.setCell], fun k _ hk => Below.heap_setCell _ _ _ _ hk⟩)
   clear st1 hv
   go_wp2
   go_roundw
   case rel => exact ⟨j + 1, by omega, by go_num, RW2, FW2⟩
   case measure => simp [RowKit.intOf]; omega
  ·obtain rfl : j = n := by omega
   have RW7 : Hid (RowAt wr b 48 ((L.map set7).flatMap stF)) := Lib.hid (by have := RW.out; rwa [← HN.out, l7_all] at this)
   have lb : b < wr.heap.size := RW.out.lt
   clear hlt hj RW
   go_wp2_with fail
   (with_reducible refine (oven_any _).mono ?_)
   rintro e_ w_ ⟨g, k, rfl, ht, _, _, hb2⟩
   obtain ⟨x2, rfl⟩ := later_is hb2
   have hz_x2 := x2.bel.size
   have RX := Lib.hid (RW7.out.to x2.bel)
   have HT := Lib.hid ht
   clear ht hb2
   go_wp2_with fail
   obtain ⟨pa, hpa⟩ : ∃ pa : Pa, pa = ⟨⟨#[111, 118, 101, 110]⟩, 0, L.map set7, some ⟨b, 0, none⟩, j⟩ := ⟨_, rfl⟩
   have hlen : (L.map set7).length = j := by rw [List.length_map]; exact HN.out
   have hj64 : j ≤ 9223372036854775807 := by omega
   have RQ := RowAt.new' x2.val x2.val.heap.size 46 (paF pa) rfl
   have bal := bel_alloc (Below.refl x2.val.heap.size x2.val) (.cells (paF pa).toArray 46)
   have hpas : Pas (x2.val.alloc (.cells (paF pa).toArray 46)) (x2.val.alloc (.cells (paF pa).toArray 46)).heap.size (some ⟨x2.val.heap.size, 0, none⟩) [pa] := by
    refine ⟨recs_one (f := paF) RQ (by simp) rfl, fun q hq => ?_⟩
    have hq2 : q = pa := by simpa using hq
    rw [hq2]
    have q1 : pa.sets = L.map set7 := by rw [hpa]
    have q2 : pa.A = some ⟨b, 0, none⟩ := by rw [hpa]
    have q3 : pa.c = j := by rw [hpa]
    have q4 : pa.line = 0 := by rw [hpa]
    refine ⟨fun h0 => ⟨b, 0, q2, by have := bal.size; have := RX.out.lt; omega, fun i s hs u v hv => ?_⟩, ?_, ?_, ?_⟩
    ·rw [Nat.zero_add]
     rw [q1] at hs
     exact (RX.out.to bal).cell (flat_get hs hv)
    ·rw [q1]
     intro s hs
     obtain ⟨s0, h0, rfl⟩ := List.mem_map.1 hs
     exact ⟨(HF.out s0 h0).1, by unfold set7; dsimp only; exact ⟨by decide, by decide⟩⟩
    ·rw [q1, q2, q3, hlen]; exact ⟨Nat.le_refl _, hj64, fun h => by cases h⟩
    ·rw [q4]; exact ⟨by decide, by decide⟩
   have hpac : paF pa = [.string ⟨#[111, 118, 101, 110]⟩, .int .i64 0, .slice (some ⟨b, 0, none⟩) j j] := by rw [hpa]; unfold paF; dsimp only; rw [hlen]
   have CK := Lib.hid (check_any (some ⟨g, 0, none⟩) [ovenD k] 1 1 ⟨#[97]⟩ (some ⟨x2.val.heap.size, 0, none⟩) [pa] 1 1 _ rfl (HT.out.to bal) ⟨Nat.le_refl _, by decide, fun h => by cases h⟩ rfl hpas ⟨Nat.le_refl _, by decide, fun h => by cases h⟩)
   have hE := RES.out k
   unfold askE at hE
   rw [← hpa] at hE
   obtain ⟨⟨f1, f2⟩, hf⟩ : ∃ f, Vd.check [ovenD k] ⟨#[97]⟩ [pa] = f := ⟨_, rfl⟩
   rw [hf] at CK hE
   rw [hpac] at CK
   have HE := Lib.hid hE
   have FX : Hid (Fr1 b w x2.val) := Lib.hid (FW.out.trans (Fr1.of_below x2.bel))
   clear hE hf hpac hpas RQ bal hlen hpa RES HT
   (with_reducible refine CK.out.mono ?_)
   rintro e_ w_ ⟨rfl, hb3⟩
   obtain ⟨x3, rfl⟩ := later_is hb3
   have FY : Hid (Fr1 b w x3.val) := Lib.hid (FX.out.trans (Fr1.of_below ((bel_alloc (Below.refl _ _) _).trans (x3.bel.mono (by simp)))))
   clear hb3
   dsimp only at HE
   by_cases h1 : f1 = 0
   ·have g1 : ((f1 : Int) != 0) = false := by simp [h1]
    obtain rfl : (f1 : Int) = res := by
     have := HE.out
     rwa [if_neg (by omega)] at this
    clear h1 HE
    go_wp2
    go_ret
    exact ⟨rfl, FY.out.trans (Fr1.of_below (bel_alloc (Below.refl _ _) _))⟩
   have g1 : ((f1 : Int) != 0) = true := bne_iff_ne.2 (by omega)
   by_cases h2 : f2 = 7
   ·have g2 : (f2 != 7) = false := by simp [h2]
    obtain rfl : (f1 : Int) = res := by
     have := HE.out
     rwa [if_neg (by omega)] at this
    clear h1 h2 HE
    go_wp2
    go_ret
    exact ⟨rfl, FY.out.trans (Fr1.of_below (bel_alloc (Below.refl _ _) _))⟩
   have g2 : (f2 != 7) = true := bne_iff_ne.2 h2
   obtain rfl : -1 = res := by
    have := HE.out
    rwa [if_pos ⟨h1, h2⟩] at this
   clear h1 h2 HE
   go_wp2
   go_ret
   exact ⟨rfl, FY.out.trans (Fr1.of_below (bel_alloc (Below.refl _ _) _))⟩
end Go.Proofs.Ythhokpaidekmnaa
