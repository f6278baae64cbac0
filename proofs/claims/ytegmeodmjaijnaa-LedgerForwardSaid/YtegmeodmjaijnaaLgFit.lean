/- Layer 23: fitting. -/
import Derived.Test.YtegmeodmjaijnaaLgLight
namespace Go.Proofs.Ytegmeodmjaijnaa
open Go.RowKit
set_option linter.unusedVariables false
set_option linter.unusedSimpArgs false
attribute [local go_sem] Later.cell Later.frozen setCell_twice
namespace Jp
/-- a right ledger -/
def Rt (l : List Jp) : Prop := Sorted l ∧ ∀ j ∈ l, 0 < j.tx ∧ 0 < j.who ∧ j.text.length ≤ 8192 ∧ 1 ≤ j.st ∧ j.st ≤ 5
theorem Rt.right {last : Nat} {l : List Jp} (h : Rt l) (h0 : ∀ j ∈ l, last < j.tx) : rightFrom last l = true := by
  induction l generalizing last with
  | nil => rfl
  | cons x l ih =>
    rw [rightFrom, Bool.and_eq_true]
    have hx := h.2 x (List.mem_cons_self ..)
    refine ⟨decide_eq_true ⟨h0 x (List.mem_cons_self ..), hx.2⟩, ih ⟨(List.pairwise_cons.1 h.1).2, fun j hj => h.2 j (List.mem_cons_of_mem _ hj)⟩ (fun j hj => (List.pairwise_cons.1 h.1).1 j hj)⟩
theorem Rt.nil : Rt [] := ⟨List.Pairwise.nil, by simp⟩
theorem put_rt {l m : List Jp} {x : Nr} (h : Rt l) (hp : put l x = some m) : Rt m := by
  refine ⟨put_sorted h.1 hp, ?_⟩
  unfold put at hp
  split at hp
  · cases hp
  next hr =>
  have hr' : x.right = true := by cases hh : x.right <;> simp_all
  have hw := of_decide_eq_true hr'
  split at hp
  · obtain rfl := Option.some.inj hp; exact h.2
  next hn1 =>
  split at hp
  next h2 =>
    split at hp
    · cases hp
    · next s hst =>
      split at hp
      · cases hp
      · next hlt =>
        obtain rfl := Option.some.inj hp
        intro j hj
        rcases List.mem_append.1 hj with hj | hj
        · exact h.2 j hj
        · obtain rfl := List.mem_singleton.1 hj
          have := step_le hst
          dsimp only
          refine ⟨by omega, by omega, by omega, by omega, by omega⟩
  next hn2 =>
    split at hp
    · cases hp
    · split at hp
      · cases hp
      · next j0 hj0 =>
        split at hp
        · cases hp
        · next s hst =>
          obtain rfl := Option.some.inj hp
          intro j hj
          rcases List.mem_or_eq_of_mem_set hj with hj | rfl
          · exact h.2 j hj
          · have h0 := h.2 j0 (List.mem_of_getElem? hj0)
            have := step_le hst
            exact ⟨h0.1, h0.2.1, h0.2.2.1, this.2.1, this.1⟩
def fitStep (s : List Nr × List Jp) (x : Nr) : List Nr × List Jp := match put s.2 x with | none => s | some m => (s.1 ++ [x], m)
def fits (l : List Nr) : List Nr × List Jp := l.foldl fitStep ([], [])
theorem fits_snoc {l : List Nr} {k : Nat} {x : Nr} (h : l[k]? = some x) : fits (l.take (k + 1)) = fitStep (fits (l.take k)) x := by
  unfold fits
  rw [List.take_add_one, h, Option.toList, List.foldl_append]
  rfl
theorem fits_inv (l : List Nr) (s : List Nr × List Jp) (hm : make s.1 = some s.2) : make (l.foldl fitStep s).1 = some (l.foldl fitStep s).2 := by
  induction l generalizing s with
  | nil => exact hm
  | cons x l ih =>
    rw [List.foldl_cons]
    apply ih
    unfold fitStep
    cases hp : put s.2 x with
    | none => exact hm
    | some m =>
      show make (s.1 ++ [x]) = some m
      unfold make at hm ⊢
      rw [makeFrom_append, hm, Option.bind_some, makeFrom, hp]
      rfl
theorem fits_make (l : List Nr) : make (fits l).1 = some (fits l).2 := fits_inv l _ rfl
theorem makeFrom_rt {l m : List Jp} (r : List Nr) (hs : Rt l) (h : makeFrom l r = some m) : Rt m := by
  induction r generalizing l with
  | nil => obtain rfl := Option.some.inj h; exact hs
  | cons x r ih =>
    rw [makeFrom] at h
    split at h
    · cases h
    · next m' hm => exact ih (put_rt hs hm) h
theorem make_rt {r : List Nr} {m : List Jp} (h : make r = some m) : Rt m := makeFrom_rt r Rt.nil h
theorem fits_rt (l : List Nr) : Rt (fits l).2 := make_rt (fits_make l)
end Jp
theorem ownBlock_slice' (A : Option Addr) (n c k : Nat) (h : (Value.slice A n c).ownBlock = some k) : ∃ q, A = some q ∧ q.block = k := by
  cases A with
  | none => simp [Value.ownBlock] at h
  | some q => exact ⟨q, rfl, by simpa [Value.ownBlock] using h⟩
theorem own_ne' {w : World} {B1 B2 e1 e2 s1 s2 n1 n2 c1 c2 : Nat} {A1 A2 : Option Addr} {xs1 xs2 : List Value} (h1 : w.ownsRow B1 e1 s1 (.slice A1 n1 c1) n1 xs1) (h2 : w.ownsRow B2 e2 s2 (.slice A2 n2 c2) n2 xs2) (he : e1 ≠ e2) : ∀ p, A1 = some p → some p.block ≠ (Value.slice A2 n2 c2).ownBlock := by
  intro p hp hq
  obtain ⟨q, hq, hqb⟩ := ownBlock_slice' A2 n2 c2 p.block hq.symm
  rcases h1.2 with ⟨h, _⟩ | ⟨g, cap, cur, hv, _, hh, _⟩
  · have : A1 = none := by simp at h; exact h.1
    rw [hp] at this; cases this
  rcases h2.2 with ⟨h, _⟩ | ⟨g2, cap2, cur2, hv2, _, hh2, _⟩
  · have : A2 = none := by simp at h; exact h.1
    rw [hq] at this; cases this
  have hA : A1 = some ⟨g, 0, none⟩ := by simp at hv; exact hv.1
  have hA2 : A2 = some ⟨g2, 0, none⟩ := by simp at hv2; exact hv2.1
  rw [hp] at hA
  rw [hq] at hA2
  obtain rfl := Option.some.inj hA
  obtain rfl := Option.some.inj hA2
  replace hqb : g2 = g := hqb
  subst hqb
  rw [hh] at hh2
  have := Option.some.inj hh2
  injection this with _ h3 _
  exact he h3
theorem JL.grown {w w' : World} {base n c B n2 c2 : Nat} {A A2 : Option Addr} {l : List Jb} {xs2 : List Value} (h : JL w base A n c l) (hr : w.ownsRow B 31 5 (.slice A2 n2 c2) n2 xs2) (g : w.grownBy w' (Value.slice A2 n2 c2).ownBlock) : JL w' base A n c l :=
  ⟨h.len, own_grown_j h.own g (own_ne' h.own hr (by decide)), fun y hy => own_grown_j (h.txt y hy) g (own_ne' (h.txt y hy) hr (by decide)), h.off, h.fit⟩
/-- what 'each' is asked for: at every step that fits it returns true -/
abbrev EachOk (f : FuncId) : Prop := ∀ (A1 : Option Addr) (n1 c1 : Nat) (j1 : List Jb) (A2 : Option Addr) (n2 c2 : Nat) (j2 : List Jb) (what tx who : Nat) (yes : Bool) (text : List Nat) (XA : Option Addr) (m xc : Nat) (w : World),
  Jbs w w.heap.size A1 j1 → j1.length = n1 → Jbs w w.heap.size A2 j2 → j2.length = n2 → RcOk w w.heap.size ⟨⟨what, tx, who, yes, text⟩, XA, xc⟩ → text.length = m → n1 ≤ 80 → Jp.Rt (jps j1) → Jp.put (jps j1) ⟨what, tx, who, yes, text⟩ = some (jps j2) →
  Calls Try.prog f #[.slice A1 n1 c1, .slice A2 n2 c2, .agg (rcV what tx who yes XA m xc).toArray] w fun e w' => e = .returned (.bool true) ∧ Below w.heap.size w w'
def FitP (l : List Rc) (w : World) (e : Ending) (w' : World) : Prop := ∃ A n c A' n' c' fl jl, e = .returned (.tuple #[.slice A n c, .slice A' n' c', .bool true]) ∧ Below w.heap.size w w' ∧ Hid (fl.length = n ∧ fl.map Rc.p = (Jp.fits (l.map Rc.p)).1 ∧ jps jl = (Jp.fits (l.map Rc.p)).2 ∧ Rcs w' w'.heap.size A fl ∧ JL w' w.heap.size A' n' c' jl ∧ n ≤ l.length ∧ n' ≤ l.length ∧ (∀ x ∈ fl, x ∈ l) ∧ (A = none → c = 0) ∧ n ≤ c ∧ c ≤ 9223372036854775807)
set_option maxHeartbeats 400000 in
theorem each_shut : EachOk 11 := by
  intro A1 n1 c1 j1 A2 n2 c2 j2 what tx who yes text XA m xc w _ _ _ _ _ _ _ _ _
  go_enter Try.func11, Try.ntmps11
  go_wp2
  go_ret
  exact ⟨rfl, bel_alloc (Below.refl _ _) _⟩
set_option maxRecDepth 100000 in
set_option maxHeartbeats 2000000 in
theorem fitting_shut (A : Option Addr) (n c : Nat) (l : List Rc) (w : World) (hR : Rcs w w.heap.size A l) (hln : l.length = n) (hn : n ≤ 80) (hsh : ∀ y ∈ l, y.p.text.length ≤ 300) :
    Calls Try.prog 10 #[.slice A n c, .func (.func 11) #[] #[]] w (FitP l w) := by
  have hf := each_shut
  obtain ⟨iR, hifR, hr0, hr1, hr2⟩ := info_parts info_record
  have HR := Lib.hid hR
  have HLN := Lib.hid hln
  have HSH := Lib.hid hsh
  have HF := Lib.hid hf
  clear hR hln hsh hf
  go_enter Try.func10, Try.ntmps10
  go_wp2
  go_loopw [7, 8, 15] (fun vo vj i wr => ∃ (k : Nat) (A1 : Option Addr) (n1 c1 : Nat) (A2 : Option Addr) (n2 c2 : Nat) (fl : List Rc) (jl : List Jb), k ≤ n ∧ n1 ≤ k ∧ n2 ≤ k ∧ vo = .slice A1 n1 c1 ∧ vj = .slice A2 n2 c2 ∧ i = .int .i64 k ∧ Hid (fl.length = n1 ∧ (fl.map Rc.p, jps jl) = Jp.fits ((l.map Rc.p).take k) ∧ wr.ownsRow w.heap.size 31 5 (.slice A1 n1 c1) n1 (fl.flatMap recK.f) ∧ JL wr w.heap.size A2 n2 c2 jl ∧ (∀ x ∈ fl, x ∈ l) ∧ Below w.heap.size w wr)) (fun _ _ i _ => n - (intOf i).toNat)
  case atStart => exact ⟨0, none, 0, 0, none, 0, 0, [], [], by omega, by omega, by omega, rfl, rfl, rfl, Lib.hid ⟨rfl, rfl, by simpa using World.ownsRow_nil w w.heap.size 31 5, JL.nil _ _, by simp, Below.refl _ _⟩⟩
  case round =>
    rename World => wr
    obtain ⟨k, A1, n1, c1, A2, n2, c2, fl, jl, hk, hn1, hn2, rfl, rfl, rfl, hh⟩ := hrel
    have HFL := Lib.hid hh.out.1
    have HFS := Lib.hid hh.out.2.1
    have OW := Lib.hid hh.out.2.2.1
    have JA := Lib.hid hh.out.2.2.2.1
    have HSB := Lib.hid hh.out.2.2.2.2.1
    have BE := Lib.hid hh.out.2.2.2.2.2
    have HRT : Hid (Jp.Rt (jps jl)) := Lib.hid (by have h := Jp.fits_rt ((l.map Rc.p).take k); rw [← HFS.out] at h; exact h)
    have HST : Hid (Jp.Sorted (jps jl)) := Lib.hid (And.left (show _ ∧ _ from HRT.out))
    clear hh
    by_cases hlt : k < n
    · obtain ⟨g1, o1, x, rfl, hg1, hx, hxo, hx0, hx1, hx2, hx3, hx4⟩ := (HR.out.to BE.out).at_ (k := k) (by rw [HLN.out]; exact hlt)
      have hltI : (k : Int) < (n : Int) := by omega
      have h0I : (0 : Int) ≤ (k : Int) := by omega
      have HX : Hid ((l.map Rc.p)[k]? = some x.p) := Lib.hid (by rw [List.getElem?_map, hx]; rfl)
      have HXM : Hid (x ∈ l) := Lib.hid (List.mem_of_getElem? hx)
      have HXT : Hid (x.p.text.length ≤ 300) := Lib.hid (HSH.out x (List.mem_of_getElem? hx))
      have HXO := Lib.hid hxo
      obtain ⟨⟨what, tx, who, yes, text⟩, XA, xc⟩ := x
      dsimp only at hx0 hx1 hx2 hx3 hx4 HXT HX
      obtain ⟨m, hm⟩ : ∃ m, text.length = m := ⟨_, rfl⟩
      have HM := Lib.hid hm
      rw [hm] at hx4 HXT
      clear hx hxo hm
      go_upto_region 6 with fail
      obtain ⟨V, hV⟩ : ∃ V, wr.alloc (.cells #[.int .u8 (what : Int), .int .u32 (tx : Int), .int .u8 (who : Int), .bool yes, .slice XA m xc] 31) = V := ⟨_, rfl⟩
      obtain ⟨gv, hgv⟩ : ∃ gv, wr.heap.size = gv := ⟨_, rfl⟩
      have RV : Hid (RowAt V gv 31 (rcV what tx who yes XA m xc)) := Lib.hid (by rw [← hV, ← hgv]; exact RowAt.new _ _ _)
      have bV : Below wr.heap.size wr V := by rw [← hV]; exact bel_alloc (Below.refl _ _) _
      rw [hV]
      have JV := Lib.hid (JA.out.to bV)
      have OV := Lib.hid (own_below OW.out bV)
      have BV : Hid (Below w.heap.size w V) := Lib.hid (BE.out.trans (bV.mono BE.out.size))
      have XV : Hid (RcOk V V.heap.size ⟨⟨what, tx, who, yes, text⟩, XA, xc⟩) := Lib.hid ((HXO.out.below bV).more bV.size)
      have HNL2 : Hid (XA = none → xc = 0) := Lib.hid (And.left (show _ ∧ _ from HXO.out.nl))
      rw [hgv]
      clear hV hgv bV hx0 hx1 hx2 hx3 hx4
      have hshj : Hid (∀ y ∈ jl, y.p.text.length ≤ 1000000) := Lib.hid (fun y hy => by have := ((And.right (show _ ∧ _ from HRT.out)) y.p (List.mem_map_of_mem hy)).2.2.1; omega)
      have dlt : gv < (V).heap.size := RV.out.lt
      have dlu : gv < (V).heap.size + 1 := Nat.lt_succ_of_lt RV.out.lt
      have d0 : (V).cell? ⟨gv, 0, none⟩ = some (.int .u8 (what : Int)) := RV.out.cells 0
      have dz0 : (V).frozen? ⟨gv, 0, none⟩ = false := RV.out.frozen 0
      have d1 : (V).cell? ⟨gv, 1, none⟩ = some (.int .u32 (tx : Int)) := RV.out.cells 1
      have dz1 : (V).frozen? ⟨gv, 1, none⟩ = false := RV.out.frozen 1
      have d2 : (V).cell? ⟨gv, 2, none⟩ = some (.int .u8 (who : Int)) := RV.out.cells 2
      have dz2 : (V).frozen? ⟨gv, 2, none⟩ = false := RV.out.frozen 2
      have d3 : (V).cell? ⟨gv, 3, none⟩ = some (.bool yes) := RV.out.cells 3
      have dz3 : (V).frozen? ⟨gv, 3, none⟩ = false := RV.out.frozen 3
      have d4 : (V).cell? ⟨gv, 4, none⟩ = some (.slice XA m xc) := RV.out.cells 4
      have dz4 : (V).frozen? ⟨gv, 4, none⟩ = false := RV.out.frozen 4
      go_wp2_with fail
      (with_reducible refine (jadd_any A2 n2 c2 jl what tx who yes text XA m xc V JV.out.jbs JV.out.len HM.out XV.out.sq XV.out.fit HNL2.out HST.out (by omega) (by have := HXT.out; omega) hshj.out).mono ?_)
      intro e w4 h4
      obtain ⟨A4, n4, c4, b, rfl, b4, H4⟩ := h4.form
      have J4 := Lib.hid (JV.out.to b4)
      have O4 := Lib.hid (own_below OV.out b4)
      have B4 : Hid (Below w.heap.size w w4) := Lib.hid (BV.out.trans (b4.mono BV.out.size))
      have R4 := Lib.hid (RV.out.to b4)
      have X4 : Hid (RcOk w4 w4.heap.size ⟨⟨what, tx, who, yes, text⟩, XA, xc⟩) := Lib.hid ((XV.out.below b4).more b4.size)
      have HBV : Hid (w.heap.size ≤ V.heap.size) := Lib.hid BV.out.size
      clear h4 b4 d0 d1 d2 d3 d4 dz0 dz1 dz2 dz3 dz4 dlt dlu JV OV BV RV XV
      rcases H4.out with ⟨hno, rfl, rfl, rfl, rfl⟩ | ⟨rfl, jl4, hyes, hJ4⟩
      · have HNO : Hid (Jp.fits ((l.map Rc.p).take (k + 1)) = (fl.map Rc.p, jps jl)) := Lib.hid (by rw [Jp.fits_snoc HX.out, ← HFS.out]; unfold Jp.fitStep; simp only; rw [hno])
        clear hno
        go_wp2
        go_roundw
        case rel => exact ⟨k + 1, A1, n1, c1, A2, n2, c2, fl, jl, by omega, by omega, by omega, rfl, rfl, by go_num, Lib.hid ⟨HFL.out, HNO.out.symm, O4.out, J4.out, HSB.out, B4.out⟩⟩
        case measure => simp [intOf]; omega
      · have HYES : Hid (Jp.fits ((l.map Rc.p).take (k + 1)) = (fl.map Rc.p ++ [⟨what, tx, who, yes, text⟩], jps jl4)) := Lib.hid (by rw [Jp.fits_snoc HX.out, ← HFS.out]; unfold Jp.fitStep; simp only; rw [hyes])
        have HP := Lib.hid hyes
        have JN : Hid (JL w4 w.heap.size A4 n4 c4 jl4) := Lib.hid (hJ4.base_le HBV.out)
        have hn4 : n4 ≤ k + 1 := by have h1 := Jp.put_length hyes; rw [jps, jps, List.length_map, List.length_map, hJ4.len, JA.out.len] at h1; omega
        clear hyes hJ4
        have dlt : gv < (w4).heap.size := R4.out.lt
        have dlu : gv < (w4).heap.size + 1 := Nat.lt_succ_of_lt R4.out.lt
        have d0 : (w4).cell? ⟨gv, 0, none⟩ = some (.int .u8 (what : Int)) := R4.out.cells 0
        have dz0 : (w4).frozen? ⟨gv, 0, none⟩ = false := R4.out.frozen 0
        have d1 : (w4).cell? ⟨gv, 1, none⟩ = some (.int .u32 (tx : Int)) := R4.out.cells 1
        have dz1 : (w4).frozen? ⟨gv, 1, none⟩ = false := R4.out.frozen 1
        have d2 : (w4).cell? ⟨gv, 2, none⟩ = some (.int .u8 (who : Int)) := R4.out.cells 2
        have dz2 : (w4).frozen? ⟨gv, 2, none⟩ = false := R4.out.frozen 2
        have d3 : (w4).cell? ⟨gv, 3, none⟩ = some (.bool yes) := R4.out.cells 3
        have dz3 : (w4).frozen? ⟨gv, 3, none⟩ = false := R4.out.frozen 3
        have d4 : (w4).cell? ⟨gv, 4, none⟩ = some (.slice XA m xc) := R4.out.cells 4
        have dz4 : (w4).frozen? ⟨gv, 4, none⟩ = false := R4.out.frozen 4
        go_wp2_with fail
        (with_reducible refine (HF.out A2 n2 c2 jl A4 n4 c4 jl4 what tx who yes text XA m xc w4 J4.out.jbs J4.out.len JN.out.jbs JN.out.len X4.out HM.out (by omega) HRT.out HP.out).mono ?_)
        rintro e w5 ⟨rfl, b5⟩
        have J5 := Lib.hid (JN.out.to b5)
        have O5 := Lib.hid (own_below O4.out b5)
        have B5 : Hid (Below w.heap.size w w5) := Lib.hid (B4.out.trans (b5.mono B4.out.size))
        have R5 := Lib.hid (R4.out.to b5)
        clear b5 d0 d1 d2 d3 d4 dz0 dz1 dz2 dz3 dz4 dlt dlu R4 X4
        have dlt : gv < (w5).heap.size := R5.out.lt
        have dlu : gv < (w5).heap.size + 1 := Nat.lt_succ_of_lt R5.out.lt
        have d0 : (w5).cell? ⟨gv, 0, none⟩ = some (.int .u8 (what : Int)) := R5.out.cells 0
        have dz0 : (w5).frozen? ⟨gv, 0, none⟩ = false := R5.out.frozen 0
        have d1 : (w5).cell? ⟨gv, 1, none⟩ = some (.int .u32 (tx : Int)) := R5.out.cells 1
        have dz1 : (w5).frozen? ⟨gv, 1, none⟩ = false := R5.out.frozen 1
        have d2 : (w5).cell? ⟨gv, 2, none⟩ = some (.int .u8 (who : Int)) := R5.out.cells 2
        have dz2 : (w5).frozen? ⟨gv, 2, none⟩ = false := R5.out.frozen 2
        have d3 : (w5).cell? ⟨gv, 3, none⟩ = some (.bool yes) := R5.out.cells 3
        have dz3 : (w5).frozen? ⟨gv, 3, none⟩ = false := R5.out.frozen 3
        have d4 : (w5).cell? ⟨gv, 4, none⟩ = some (.slice XA m xc) := R5.out.cells 4
        have dz4 : (w5).frozen? ⟨gv, 4, none⟩ = false := R5.out.frozen 4
        have hbz : w.heap.size ≤ w5.heap.size := B5.out.size
        go_wp2_with (at_builtin; (refine wpList_append_rn (f := recK.f) (s := 5) _ rfl (.tmp 40) (.tmp 42) 22 rfl recK_fine.hf (by decide) recK_fine.one w.heap.size 31 iR _ _ Try.underlying22 hifR hr0 hr1 hr2 (by decide) rfl A1 c1 n1 fl rfl HFL.out (own_below O5.out (bel_alloc (Below.refl _ _) _)) (w5.heap.size + 1) _ [⟨⟨what, tx, who, yes, text⟩, XA, xc⟩] 1 1 rfl rfl (Recs.lits (f := recK.f) (s := 5) recK_fine.hf (by decide) _ _ _ _ _ _ (by simp [HM.out]) (by simp) (by simp)) (by simp) (n1 + 1) rfl (by omega) (by simp; omega) ?_); intro A6 c6 w6 o6 g6 b6; have O6 := Lib.hid o6; have b7 : Below w.heap.size w5 w6 := ((Below.refl w.heap.size w5).alloc hbz _).trans b6; have B6 : Hid (Below w.heap.size w w6) := Lib.hid (B5.out.trans b7); have J6 : Hid (JL w6 w.heap.size A4 n4 c4 jl4) := Lib.hid ((J5.out.to (bel_alloc (Below.refl _ _) _)).grown (own_below O5.out (bel_alloc (Below.refl _ _) _)) g6); clear o6 g6 b6 b7)
        have HFL6 : Hid ((fl ++ [(⟨⟨what, tx, who, yes, text⟩, XA, xc⟩ : Rc)]).length = n1 + 1) := Lib.hid (by rw [List.length_append, HFL.out]; rfl)
        have HS6 : Hid (∀ x ∈ fl ++ [(⟨⟨what, tx, who, yes, text⟩, XA, xc⟩ : Rc)], x ∈ l) := Lib.hid (by
          intro y hy
          rcases List.mem_append.1 hy with hy | hy
          · exact HSB.out y hy
          · obtain rfl := List.mem_singleton.1 hy; exact HXM.out)
        go_wp2
        go_roundw
        case rel => exact ⟨k + 1, A6, n1 + 1, c6, A4, n4, c4, fl ++ [⟨⟨what, tx, who, yes, text⟩, XA, xc⟩], jl4, by omega, by omega, by omega, rfl, rfl, by go_num, Lib.hid ⟨HFL6.out, by rw [HYES.out, List.map_append]; rfl, O6.out, J6.out, HS6.out, B6.out⟩⟩
        case measure => simp [intOf]; omega
    · obtain rfl : k = n := by omega
      have HFS2 : Hid ((fl.map Rc.p, jps jl) = Jp.fits (l.map Rc.p)) := Lib.hid (by have h := HFS.out; rwa [List.take_of_length_le (by rw [List.length_map, HLN.out]; exact Nat.le_refl _)] at h)
      have RF : Hid (Rcs wr wr.heap.size A1 fl) := Lib.hid ⟨Recs.of_own recK_fine.hf (by decide) OW.out, fun b hb => ((HR.out.ok b (HSB.out b hb)).below BE.out).more BE.out.size⟩
      go_wp2
      refine bodyPost_ret (v := .tuple #[.slice A1 n1 c1, .slice A2 n2 c2, .bool true]) (by simp [results, Try.results10, go_sem]) rfl ⟨A1, n1, c1, A2, n2, c2, fl, jl, rfl, BE.out, Lib.hid ⟨HFL.out, by rw [← HFS2.out], by rw [← HFS2.out], RF.out, JA.out, by rw [HLN.out]; exact hn1, by rw [HLN.out]; exact hn2, HSB.out, own_slice OW.out⟩⟩
set_option maxHeartbeats 400000 in
theorem each_made : EachOk 16 := by
  intro A1 n1 c1 j1 A2 n2 c2 j2 what tx who yes text XA m xc w _ _ _ _ _ _ _ _ _
  go_enter Try.func16, Try.ntmps16
  go_wp2
  go_ret
  exact ⟨rfl, bel_alloc (Below.refl _ _) _⟩
set_option maxRecDepth 100000 in
set_option maxHeartbeats 2000000 in
theorem fitting_made (A : Option Addr) (n c : Nat) (l : List Rc) (w : World) (hR : Rcs w w.heap.size A l) (hln : l.length = n) (hn : n ≤ 80) (hsh : ∀ y ∈ l, y.p.text.length ≤ 300) :
    Calls Try.prog 10 #[.slice A n c, .func (.func 16) #[] #[]] w (FitP l w) := by
  have hf := each_made
  obtain ⟨iR, hifR, hr0, hr1, hr2⟩ := info_parts info_record
  have HR := Lib.hid hR
  have HLN := Lib.hid hln
  have HSH := Lib.hid hsh
  have HF := Lib.hid hf
  clear hR hln hsh hf
  go_enter Try.func10, Try.ntmps10
  go_wp2
  go_loopw [7, 8, 15] (fun vo vj i wr => ∃ (k : Nat) (A1 : Option Addr) (n1 c1 : Nat) (A2 : Option Addr) (n2 c2 : Nat) (fl : List Rc) (jl : List Jb), k ≤ n ∧ n1 ≤ k ∧ n2 ≤ k ∧ vo = .slice A1 n1 c1 ∧ vj = .slice A2 n2 c2 ∧ i = .int .i64 k ∧ Hid (fl.length = n1 ∧ (fl.map Rc.p, jps jl) = Jp.fits ((l.map Rc.p).take k) ∧ wr.ownsRow w.heap.size 31 5 (.slice A1 n1 c1) n1 (fl.flatMap recK.f) ∧ JL wr w.heap.size A2 n2 c2 jl ∧ (∀ x ∈ fl, x ∈ l) ∧ Below w.heap.size w wr)) (fun _ _ i _ => n - (intOf i).toNat)
  case atStart => exact ⟨0, none, 0, 0, none, 0, 0, [], [], by omega, by omega, by omega, rfl, rfl, rfl, Lib.hid ⟨rfl, rfl, by simpa using World.ownsRow_nil w w.heap.size 31 5, JL.nil _ _, by simp, Below.refl _ _⟩⟩
  case round =>
    rename World => wr
    obtain ⟨k, A1, n1, c1, A2, n2, c2, fl, jl, hk, hn1, hn2, rfl, rfl, rfl, hh⟩ := hrel
    have HFL := Lib.hid hh.out.1
    have HFS := Lib.hid hh.out.2.1
    have OW := Lib.hid hh.out.2.2.1
    have JA := Lib.hid hh.out.2.2.2.1
    have HSB := Lib.hid hh.out.2.2.2.2.1
    have BE := Lib.hid hh.out.2.2.2.2.2
    have HRT : Hid (Jp.Rt (jps jl)) := Lib.hid (by have h := Jp.fits_rt ((l.map Rc.p).take k); rw [← HFS.out] at h; exact h)
    have HST : Hid (Jp.Sorted (jps jl)) := Lib.hid (And.left (show _ ∧ _ from HRT.out))
    clear hh
    by_cases hlt : k < n
    · obtain ⟨g1, o1, x, rfl, hg1, hx, hxo, hx0, hx1, hx2, hx3, hx4⟩ := (HR.out.to BE.out).at_ (k := k) (by rw [HLN.out]; exact hlt)
      have hltI : (k : Int) < (n : Int) := by omega
      have h0I : (0 : Int) ≤ (k : Int) := by omega
      have HX : Hid ((l.map Rc.p)[k]? = some x.p) := Lib.hid (by rw [List.getElem?_map, hx]; rfl)
      have HXM : Hid (x ∈ l) := Lib.hid (List.mem_of_getElem? hx)
      have HXT : Hid (x.p.text.length ≤ 300) := Lib.hid (HSH.out x (List.mem_of_getElem? hx))
      have HXO := Lib.hid hxo
      obtain ⟨⟨what, tx, who, yes, text⟩, XA, xc⟩ := x
      dsimp only at hx0 hx1 hx2 hx3 hx4 HXT HX
      obtain ⟨m, hm⟩ : ∃ m, text.length = m := ⟨_, rfl⟩
      have HM := Lib.hid hm
      rw [hm] at hx4 HXT
      clear hx hxo hm
      go_upto_region 6 with fail
      obtain ⟨V, hV⟩ : ∃ V, wr.alloc (.cells #[.int .u8 (what : Int), .int .u32 (tx : Int), .int .u8 (who : Int), .bool yes, .slice XA m xc] 31) = V := ⟨_, rfl⟩
      obtain ⟨gv, hgv⟩ : ∃ gv, wr.heap.size = gv := ⟨_, rfl⟩
      have RV : Hid (RowAt V gv 31 (rcV what tx who yes XA m xc)) := Lib.hid (by rw [← hV, ← hgv]; exact RowAt.new _ _ _)
      have bV : Below wr.heap.size wr V := by rw [← hV]; exact bel_alloc (Below.refl _ _) _
      rw [hV]
      have JV := Lib.hid (JA.out.to bV)
      have OV := Lib.hid (own_below OW.out bV)
      have BV : Hid (Below w.heap.size w V) := Lib.hid (BE.out.trans (bV.mono BE.out.size))
      have XV : Hid (RcOk V V.heap.size ⟨⟨what, tx, who, yes, text⟩, XA, xc⟩) := Lib.hid ((HXO.out.below bV).more bV.size)
      have HNL2 : Hid (XA = none → xc = 0) := Lib.hid (And.left (show _ ∧ _ from HXO.out.nl))
      rw [hgv]
      clear hV hgv bV hx0 hx1 hx2 hx3 hx4
      have hshj : Hid (∀ y ∈ jl, y.p.text.length ≤ 1000000) := Lib.hid (fun y hy => by have := ((And.right (show _ ∧ _ from HRT.out)) y.p (List.mem_map_of_mem hy)).2.2.1; omega)
      have dlt : gv < (V).heap.size := RV.out.lt
      have dlu : gv < (V).heap.size + 1 := Nat.lt_succ_of_lt RV.out.lt
      have d0 : (V).cell? ⟨gv, 0, none⟩ = some (.int .u8 (what : Int)) := RV.out.cells 0
      have dz0 : (V).frozen? ⟨gv, 0, none⟩ = false := RV.out.frozen 0
      have d1 : (V).cell? ⟨gv, 1, none⟩ = some (.int .u32 (tx : Int)) := RV.out.cells 1
      have dz1 : (V).frozen? ⟨gv, 1, none⟩ = false := RV.out.frozen 1
      have d2 : (V).cell? ⟨gv, 2, none⟩ = some (.int .u8 (who : Int)) := RV.out.cells 2
      have dz2 : (V).frozen? ⟨gv, 2, none⟩ = false := RV.out.frozen 2
      have d3 : (V).cell? ⟨gv, 3, none⟩ = some (.bool yes) := RV.out.cells 3
      have dz3 : (V).frozen? ⟨gv, 3, none⟩ = false := RV.out.frozen 3
      have d4 : (V).cell? ⟨gv, 4, none⟩ = some (.slice XA m xc) := RV.out.cells 4
      have dz4 : (V).frozen? ⟨gv, 4, none⟩ = false := RV.out.frozen 4
      go_wp2_with fail
      (with_reducible refine (jadd_any A2 n2 c2 jl what tx who yes text XA m xc V JV.out.jbs JV.out.len HM.out XV.out.sq XV.out.fit HNL2.out HST.out (by omega) (by have := HXT.out; omega) hshj.out).mono ?_)
      intro e w4 h4
      obtain ⟨A4, n4, c4, b, rfl, b4, H4⟩ := h4.form
      have J4 := Lib.hid (JV.out.to b4)
      have O4 := Lib.hid (own_below OV.out b4)
      have B4 : Hid (Below w.heap.size w w4) := Lib.hid (BV.out.trans (b4.mono BV.out.size))
      have R4 := Lib.hid (RV.out.to b4)
      have X4 : Hid (RcOk w4 w4.heap.size ⟨⟨what, tx, who, yes, text⟩, XA, xc⟩) := Lib.hid ((XV.out.below b4).more b4.size)
      have HBV : Hid (w.heap.size ≤ V.heap.size) := Lib.hid BV.out.size
      clear h4 b4 d0 d1 d2 d3 d4 dz0 dz1 dz2 dz3 dz4 dlt dlu JV OV BV RV XV
      rcases H4.out with ⟨hno, rfl, rfl, rfl, rfl⟩ | ⟨rfl, jl4, hyes, hJ4⟩
      · have HNO : Hid (Jp.fits ((l.map Rc.p).take (k + 1)) = (fl.map Rc.p, jps jl)) := Lib.hid (by rw [Jp.fits_snoc HX.out, ← HFS.out]; unfold Jp.fitStep; simp only; rw [hno])
        clear hno
        go_wp2
        go_roundw
        case rel => exact ⟨k + 1, A1, n1, c1, A2, n2, c2, fl, jl, by omega, by omega, by omega, rfl, rfl, by go_num, Lib.hid ⟨HFL.out, HNO.out.symm, O4.out, J4.out, HSB.out, B4.out⟩⟩
        case measure => simp [intOf]; omega
      · have HYES : Hid (Jp.fits ((l.map Rc.p).take (k + 1)) = (fl.map Rc.p ++ [⟨what, tx, who, yes, text⟩], jps jl4)) := Lib.hid (by rw [Jp.fits_snoc HX.out, ← HFS.out]; unfold Jp.fitStep; simp only; rw [hyes])
        have HP := Lib.hid hyes
        have JN : Hid (JL w4 w.heap.size A4 n4 c4 jl4) := Lib.hid (hJ4.base_le HBV.out)
        have hn4 : n4 ≤ k + 1 := by have h1 := Jp.put_length hyes; rw [jps, jps, List.length_map, List.length_map, hJ4.len, JA.out.len] at h1; omega
        clear hyes hJ4
        have dlt : gv < (w4).heap.size := R4.out.lt
        have dlu : gv < (w4).heap.size + 1 := Nat.lt_succ_of_lt R4.out.lt
        have d0 : (w4).cell? ⟨gv, 0, none⟩ = some (.int .u8 (what : Int)) := R4.out.cells 0
        have dz0 : (w4).frozen? ⟨gv, 0, none⟩ = false := R4.out.frozen 0
        have d1 : (w4).cell? ⟨gv, 1, none⟩ = some (.int .u32 (tx : Int)) := R4.out.cells 1
        have dz1 : (w4).frozen? ⟨gv, 1, none⟩ = false := R4.out.frozen 1
        have d2 : (w4).cell? ⟨gv, 2, none⟩ = some (.int .u8 (who : Int)) := R4.out.cells 2
        have dz2 : (w4).frozen? ⟨gv, 2, none⟩ = false := R4.out.frozen 2
        have d3 : (w4).cell? ⟨gv, 3, none⟩ = some (.bool yes) := R4.out.cells 3
        have dz3 : (w4).frozen? ⟨gv, 3, none⟩ = false := R4.out.frozen 3
        have d4 : (w4).cell? ⟨gv, 4, none⟩ = some (.slice XA m xc) := R4.out.cells 4
        have dz4 : (w4).frozen? ⟨gv, 4, none⟩ = false := R4.out.frozen 4
        go_wp2_with fail
        (with_reducible refine (HF.out A2 n2 c2 jl A4 n4 c4 jl4 what tx who yes text XA m xc w4 J4.out.jbs J4.out.len JN.out.jbs JN.out.len X4.out HM.out (by omega) HRT.out HP.out).mono ?_)
        rintro e w5 ⟨rfl, b5⟩
        have J5 := Lib.hid (JN.out.to b5)
        have O5 := Lib.hid (own_below O4.out b5)
        have B5 : Hid (Below w.heap.size w w5) := Lib.hid (B4.out.trans (b5.mono B4.out.size))
        have R5 := Lib.hid (R4.out.to b5)
        clear b5 d0 d1 d2 d3 d4 dz0 dz1 dz2 dz3 dz4 dlt dlu R4 X4
        have dlt : gv < (w5).heap.size := R5.out.lt
        have dlu : gv < (w5).heap.size + 1 := Nat.lt_succ_of_lt R5.out.lt
        have d0 : (w5).cell? ⟨gv, 0, none⟩ = some (.int .u8 (what : Int)) := R5.out.cells 0
        have dz0 : (w5).frozen? ⟨gv, 0, none⟩ = false := R5.out.frozen 0
        have d1 : (w5).cell? ⟨gv, 1, none⟩ = some (.int .u32 (tx : Int)) := R5.out.cells 1
        have dz1 : (w5).frozen? ⟨gv, 1, none⟩ = false := R5.out.frozen 1
        have d2 : (w5).cell? ⟨gv, 2, none⟩ = some (.int .u8 (who : Int)) := R5.out.cells 2
        have dz2 : (w5).frozen? ⟨gv, 2, none⟩ = false := R5.out.frozen 2
        have d3 : (w5).cell? ⟨gv, 3, none⟩ = some (.bool yes) := R5.out.cells 3
        have dz3 : (w5).frozen? ⟨gv, 3, none⟩ = false := R5.out.frozen 3
        have d4 : (w5).cell? ⟨gv, 4, none⟩ = some (.slice XA m xc) := R5.out.cells 4
        have dz4 : (w5).frozen? ⟨gv, 4, none⟩ = false := R5.out.frozen 4
        have hbz : w.heap.size ≤ w5.heap.size := B5.out.size
        go_wp2_with (at_builtin; (refine wpList_append_rn (f := recK.f) (s := 5) _ rfl (.tmp 40) (.tmp 42) 22 rfl recK_fine.hf (by decide) recK_fine.one w.heap.size 31 iR _ _ Try.underlying22 hifR hr0 hr1 hr2 (by decide) rfl A1 c1 n1 fl rfl HFL.out (own_below O5.out (bel_alloc (Below.refl _ _) _)) (w5.heap.size + 1) _ [⟨⟨what, tx, who, yes, text⟩, XA, xc⟩] 1 1 rfl rfl (Recs.lits (f := recK.f) (s := 5) recK_fine.hf (by decide) _ _ _ _ _ _ (by simp [HM.out]) (by simp) (by simp)) (by simp) (n1 + 1) rfl (by omega) (by simp; omega) ?_); intro A6 c6 w6 o6 g6 b6; have O6 := Lib.hid o6; have b7 : Below w.heap.size w5 w6 := ((Below.refl w.heap.size w5).alloc hbz _).trans b6; have B6 : Hid (Below w.heap.size w w6) := Lib.hid (B5.out.trans b7); have J6 : Hid (JL w6 w.heap.size A4 n4 c4 jl4) := Lib.hid ((J5.out.to (bel_alloc (Below.refl _ _) _)).grown (own_below O5.out (bel_alloc (Below.refl _ _) _)) g6); clear o6 g6 b6 b7)
        have HFL6 : Hid ((fl ++ [(⟨⟨what, tx, who, yes, text⟩, XA, xc⟩ : Rc)]).length = n1 + 1) := Lib.hid (by rw [List.length_append, HFL.out]; rfl)
        have HS6 : Hid (∀ x ∈ fl ++ [(⟨⟨what, tx, who, yes, text⟩, XA, xc⟩ : Rc)], x ∈ l) := Lib.hid (by
          intro y hy
          rcases List.mem_append.1 hy with hy | hy
          · exact HSB.out y hy
          · obtain rfl := List.mem_singleton.1 hy; exact HXM.out)
        go_wp2
        go_roundw
        case rel => exact ⟨k + 1, A6, n1 + 1, c6, A4, n4, c4, fl ++ [⟨⟨what, tx, who, yes, text⟩, XA, xc⟩], jl4, by omega, by omega, by omega, rfl, rfl, by go_num, Lib.hid ⟨HFL6.out, by rw [HYES.out, List.map_append]; rfl, O6.out, J6.out, HS6.out, B6.out⟩⟩
        case measure => simp [intOf]; omega
    · obtain rfl : k = n := by omega
      have HFS2 : Hid ((fl.map Rc.p, jps jl) = Jp.fits (l.map Rc.p)) := Lib.hid (by have h := HFS.out; rwa [List.take_of_length_le (by rw [List.length_map, HLN.out]; exact Nat.le_refl _)] at h)
      have RF : Hid (Rcs wr wr.heap.size A1 fl) := Lib.hid ⟨Recs.of_own recK_fine.hf (by decide) OW.out, fun b hb => ((HR.out.ok b (HSB.out b hb)).below BE.out).more BE.out.size⟩
      go_wp2
      refine bodyPost_ret (v := .tuple #[.slice A1 n1 c1, .slice A2 n2 c2, .bool true]) (by simp [results, Try.results10, go_sem]) rfl ⟨A1, n1, c1, A2, n2, c2, fl, jl, rfl, BE.out, Lib.hid ⟨HFL.out, by rw [← HFS2.out], by rw [← HFS2.out], RF.out, JA.out, by rw [HLN.out]; exact hn1, by rw [HLN.out]; exact hn2, HSB.out, own_slice OW.out⟩⟩
set_option maxHeartbeats 400000 in
theorem each_apart : EachOk 19 := by
  intro A1 n1 c1 j1 A2 n2 c2 j2 what tx who yes text XA m xc w _ _ _ _ _ _ _ _ _
  go_enter Try.func19, Try.ntmps19
  go_wp2
  go_ret
  exact ⟨rfl, bel_alloc (Below.refl _ _) _⟩
set_option maxRecDepth 100000 in
set_option maxHeartbeats 2000000 in
theorem fitting_apart (A : Option Addr) (n c : Nat) (l : List Rc) (w : World) (hR : Rcs w w.heap.size A l) (hln : l.length = n) (hn : n ≤ 80) (hsh : ∀ y ∈ l, y.p.text.length ≤ 300) :
    Calls Try.prog 10 #[.slice A n c, .func (.func 19) #[] #[]] w (FitP l w) := by
  have hf := each_apart
  obtain ⟨iR, hifR, hr0, hr1, hr2⟩ := info_parts info_record
  have HR := Lib.hid hR
  have HLN := Lib.hid hln
  have HSH := Lib.hid hsh
  have HF := Lib.hid hf
  clear hR hln hsh hf
  go_enter Try.func10, Try.ntmps10
  go_wp2
  go_loopw [7, 8, 15] (fun vo vj i wr => ∃ (k : Nat) (A1 : Option Addr) (n1 c1 : Nat) (A2 : Option Addr) (n2 c2 : Nat) (fl : List Rc) (jl : List Jb), k ≤ n ∧ n1 ≤ k ∧ n2 ≤ k ∧ vo = .slice A1 n1 c1 ∧ vj = .slice A2 n2 c2 ∧ i = .int .i64 k ∧ Hid (fl.length = n1 ∧ (fl.map Rc.p, jps jl) = Jp.fits ((l.map Rc.p).take k) ∧ wr.ownsRow w.heap.size 31 5 (.slice A1 n1 c1) n1 (fl.flatMap recK.f) ∧ JL wr w.heap.size A2 n2 c2 jl ∧ (∀ x ∈ fl, x ∈ l) ∧ Below w.heap.size w wr)) (fun _ _ i _ => n - (intOf i).toNat)
  case atStart => exact ⟨0, none, 0, 0, none, 0, 0, [], [], by omega, by omega, by omega, rfl, rfl, rfl, Lib.hid ⟨rfl, rfl, by simpa using World.ownsRow_nil w w.heap.size 31 5, JL.nil _ _, by simp, Below.refl _ _⟩⟩
  case round =>
    rename World => wr
    obtain ⟨k, A1, n1, c1, A2, n2, c2, fl, jl, hk, hn1, hn2, rfl, rfl, rfl, hh⟩ := hrel
    have HFL := Lib.hid hh.out.1
    have HFS := Lib.hid hh.out.2.1
    have OW := Lib.hid hh.out.2.2.1
    have JA := Lib.hid hh.out.2.2.2.1
    have HSB := Lib.hid hh.out.2.2.2.2.1
    have BE := Lib.hid hh.out.2.2.2.2.2
    have HRT : Hid (Jp.Rt (jps jl)) := Lib.hid (by have h := Jp.fits_rt ((l.map Rc.p).take k); rw [← HFS.out] at h; exact h)
    have HST : Hid (Jp.Sorted (jps jl)) := Lib.hid (And.left (show _ ∧ _ from HRT.out))
    clear hh
    by_cases hlt : k < n
    · obtain ⟨g1, o1, x, rfl, hg1, hx, hxo, hx0, hx1, hx2, hx3, hx4⟩ := (HR.out.to BE.out).at_ (k := k) (by rw [HLN.out]; exact hlt)
      have hltI : (k : Int) < (n : Int) := by omega
      have h0I : (0 : Int) ≤ (k : Int) := by omega
      have HX : Hid ((l.map Rc.p)[k]? = some x.p) := Lib.hid (by rw [List.getElem?_map, hx]; rfl)
      have HXM : Hid (x ∈ l) := Lib.hid (List.mem_of_getElem? hx)
      have HXT : Hid (x.p.text.length ≤ 300) := Lib.hid (HSH.out x (List.mem_of_getElem? hx))
      have HXO := Lib.hid hxo
      obtain ⟨⟨what, tx, who, yes, text⟩, XA, xc⟩ := x
      dsimp only at hx0 hx1 hx2 hx3 hx4 HXT HX
      obtain ⟨m, hm⟩ : ∃ m, text.length = m := ⟨_, rfl⟩
      have HM := Lib.hid hm
      rw [hm] at hx4 HXT
      clear hx hxo hm
      go_upto_region 6 with fail
      obtain ⟨V, hV⟩ : ∃ V, wr.alloc (.cells #[.int .u8 (what : Int), .int .u32 (tx : Int), .int .u8 (who : Int), .bool yes, .slice XA m xc] 31) = V := ⟨_, rfl⟩
      obtain ⟨gv, hgv⟩ : ∃ gv, wr.heap.size = gv := ⟨_, rfl⟩
      have RV : Hid (RowAt V gv 31 (rcV what tx who yes XA m xc)) := Lib.hid (by rw [← hV, ← hgv]; exact RowAt.new _ _ _)
      have bV : Below wr.heap.size wr V := by rw [← hV]; exact bel_alloc (Below.refl _ _) _
      rw [hV]
      have JV := Lib.hid (JA.out.to bV)
      have OV := Lib.hid (own_below OW.out bV)
      have BV : Hid (Below w.heap.size w V) := Lib.hid (BE.out.trans (bV.mono BE.out.size))
      have XV : Hid (RcOk V V.heap.size ⟨⟨what, tx, who, yes, text⟩, XA, xc⟩) := Lib.hid ((HXO.out.below bV).more bV.size)
      have HNL2 : Hid (XA = none → xc = 0) := Lib.hid (And.left (show _ ∧ _ from HXO.out.nl))
      rw [hgv]
      clear hV hgv bV hx0 hx1 hx2 hx3 hx4
      have hshj : Hid (∀ y ∈ jl, y.p.text.length ≤ 1000000) := Lib.hid (fun y hy => by have := ((And.right (show _ ∧ _ from HRT.out)) y.p (List.mem_map_of_mem hy)).2.2.1; omega)
      have dlt : gv < (V).heap.size := RV.out.lt
      have dlu : gv < (V).heap.size + 1 := Nat.lt_succ_of_lt RV.out.lt
      have d0 : (V).cell? ⟨gv, 0, none⟩ = some (.int .u8 (what : Int)) := RV.out.cells 0
      have dz0 : (V).frozen? ⟨gv, 0, none⟩ = false := RV.out.frozen 0
      have d1 : (V).cell? ⟨gv, 1, none⟩ = some (.int .u32 (tx : Int)) := RV.out.cells 1
      have dz1 : (V).frozen? ⟨gv, 1, none⟩ = false := RV.out.frozen 1
      have d2 : (V).cell? ⟨gv, 2, none⟩ = some (.int .u8 (who : Int)) := RV.out.cells 2
      have dz2 : (V).frozen? ⟨gv, 2, none⟩ = false := RV.out.frozen 2
      have d3 : (V).cell? ⟨gv, 3, none⟩ = some (.bool yes) := RV.out.cells 3
      have dz3 : (V).frozen? ⟨gv, 3, none⟩ = false := RV.out.frozen 3
      have d4 : (V).cell? ⟨gv, 4, none⟩ = some (.slice XA m xc) := RV.out.cells 4
      have dz4 : (V).frozen? ⟨gv, 4, none⟩ = false := RV.out.frozen 4
      go_wp2_with fail
      (with_reducible refine (jadd_any A2 n2 c2 jl what tx who yes text XA m xc V JV.out.jbs JV.out.len HM.out XV.out.sq XV.out.fit HNL2.out HST.out (by omega) (by have := HXT.out; omega) hshj.out).mono ?_)
      intro e w4 h4
      obtain ⟨A4, n4, c4, b, rfl, b4, H4⟩ := h4.form
      have J4 := Lib.hid (JV.out.to b4)
      have O4 := Lib.hid (own_below OV.out b4)
      have B4 : Hid (Below w.heap.size w w4) := Lib.hid (BV.out.trans (b4.mono BV.out.size))
      have R4 := Lib.hid (RV.out.to b4)
      have X4 : Hid (RcOk w4 w4.heap.size ⟨⟨what, tx, who, yes, text⟩, XA, xc⟩) := Lib.hid ((XV.out.below b4).more b4.size)
      have HBV : Hid (w.heap.size ≤ V.heap.size) := Lib.hid BV.out.size
      clear h4 b4 d0 d1 d2 d3 d4 dz0 dz1 dz2 dz3 dz4 dlt dlu JV OV BV RV XV
      rcases H4.out with ⟨hno, rfl, rfl, rfl, rfl⟩ | ⟨rfl, jl4, hyes, hJ4⟩
      · have HNO : Hid (Jp.fits ((l.map Rc.p).take (k + 1)) = (fl.map Rc.p, jps jl)) := Lib.hid (by rw [Jp.fits_snoc HX.out, ← HFS.out]; unfold Jp.fitStep; simp only; rw [hno])
        clear hno
        go_wp2
        go_roundw
        case rel => exact ⟨k + 1, A1, n1, c1, A2, n2, c2, fl, jl, by omega, by omega, by omega, rfl, rfl, by go_num, Lib.hid ⟨HFL.out, HNO.out.symm, O4.out, J4.out, HSB.out, B4.out⟩⟩
        case measure => simp [intOf]; omega
      · have HYES : Hid (Jp.fits ((l.map Rc.p).take (k + 1)) = (fl.map Rc.p ++ [⟨what, tx, who, yes, text⟩], jps jl4)) := Lib.hid (by rw [Jp.fits_snoc HX.out, ← HFS.out]; unfold Jp.fitStep; simp only; rw [hyes])
        have HP := Lib.hid hyes
        have JN : Hid (JL w4 w.heap.size A4 n4 c4 jl4) := Lib.hid (hJ4.base_le HBV.out)
        have hn4 : n4 ≤ k + 1 := by have h1 := Jp.put_length hyes; rw [jps, jps, List.length_map, List.length_map, hJ4.len, JA.out.len] at h1; omega
        clear hyes hJ4
        have dlt : gv < (w4).heap.size := R4.out.lt
        have dlu : gv < (w4).heap.size + 1 := Nat.lt_succ_of_lt R4.out.lt
        have d0 : (w4).cell? ⟨gv, 0, none⟩ = some (.int .u8 (what : Int)) := R4.out.cells 0
        have dz0 : (w4).frozen? ⟨gv, 0, none⟩ = false := R4.out.frozen 0
        have d1 : (w4).cell? ⟨gv, 1, none⟩ = some (.int .u32 (tx : Int)) := R4.out.cells 1
        have dz1 : (w4).frozen? ⟨gv, 1, none⟩ = false := R4.out.frozen 1
        have d2 : (w4).cell? ⟨gv, 2, none⟩ = some (.int .u8 (who : Int)) := R4.out.cells 2
        have dz2 : (w4).frozen? ⟨gv, 2, none⟩ = false := R4.out.frozen 2
        have d3 : (w4).cell? ⟨gv, 3, none⟩ = some (.bool yes) := R4.out.cells 3
        have dz3 : (w4).frozen? ⟨gv, 3, none⟩ = false := R4.out.frozen 3
        have d4 : (w4).cell? ⟨gv, 4, none⟩ = some (.slice XA m xc) := R4.out.cells 4
        have dz4 : (w4).frozen? ⟨gv, 4, none⟩ = false := R4.out.frozen 4
        go_wp2_with fail
        (with_reducible refine (HF.out A2 n2 c2 jl A4 n4 c4 jl4 what tx who yes text XA m xc w4 J4.out.jbs J4.out.len JN.out.jbs JN.out.len X4.out HM.out (by omega) HRT.out HP.out).mono ?_)
        rintro e w5 ⟨rfl, b5⟩
        have J5 := Lib.hid (JN.out.to b5)
        have O5 := Lib.hid (own_below O4.out b5)
        have B5 : Hid (Below w.heap.size w w5) := Lib.hid (B4.out.trans (b5.mono B4.out.size))
        have R5 := Lib.hid (R4.out.to b5)
        clear b5 d0 d1 d2 d3 d4 dz0 dz1 dz2 dz3 dz4 dlt dlu R4 X4
        have dlt : gv < (w5).heap.size := R5.out.lt
        have dlu : gv < (w5).heap.size + 1 := Nat.lt_succ_of_lt R5.out.lt
        have d0 : (w5).cell? ⟨gv, 0, none⟩ = some (.int .u8 (what : Int)) := R5.out.cells 0
        have dz0 : (w5).frozen? ⟨gv, 0, none⟩ = false := R5.out.frozen 0
        have d1 : (w5).cell? ⟨gv, 1, none⟩ = some (.int .u32 (tx : Int)) := R5.out.cells 1
        have dz1 : (w5).frozen? ⟨gv, 1, none⟩ = false := R5.out.frozen 1
        have d2 : (w5).cell? ⟨gv, 2, none⟩ = some (.int .u8 (who : Int)) := R5.out.cells 2
        have dz2 : (w5).frozen? ⟨gv, 2, none⟩ = false := R5.out.frozen 2
        have d3 : (w5).cell? ⟨gv, 3, none⟩ = some (.bool yes) := R5.out.cells 3
        have dz3 : (w5).frozen? ⟨gv, 3, none⟩ = false := R5.out.frozen 3
        have d4 : (w5).cell? ⟨gv, 4, none⟩ = some (.slice XA m xc) := R5.out.cells 4
        have dz4 : (w5).frozen? ⟨gv, 4, none⟩ = false := R5.out.frozen 4
        have hbz : w.heap.size ≤ w5.heap.size := B5.out.size
        go_wp2_with (at_builtin; (refine wpList_append_rn (f := recK.f) (s := 5) _ rfl (.tmp 40) (.tmp 42) 22 rfl recK_fine.hf (by decide) recK_fine.one w.heap.size 31 iR _ _ Try.underlying22 hifR hr0 hr1 hr2 (by decide) rfl A1 c1 n1 fl rfl HFL.out (own_below O5.out (bel_alloc (Below.refl _ _) _)) (w5.heap.size + 1) _ [⟨⟨what, tx, who, yes, text⟩, XA, xc⟩] 1 1 rfl rfl (Recs.lits (f := recK.f) (s := 5) recK_fine.hf (by decide) _ _ _ _ _ _ (by simp [HM.out]) (by simp) (by simp)) (by simp) (n1 + 1) rfl (by omega) (by simp; omega) ?_); intro A6 c6 w6 o6 g6 b6; have O6 := Lib.hid o6; have b7 : Below w.heap.size w5 w6 := ((Below.refl w.heap.size w5).alloc hbz _).trans b6; have B6 : Hid (Below w.heap.size w w6) := Lib.hid (B5.out.trans b7); have J6 : Hid (JL w6 w.heap.size A4 n4 c4 jl4) := Lib.hid ((J5.out.to (bel_alloc (Below.refl _ _) _)).grown (own_below O5.out (bel_alloc (Below.refl _ _) _)) g6); clear o6 g6 b6 b7)
        have HFL6 : Hid ((fl ++ [(⟨⟨what, tx, who, yes, text⟩, XA, xc⟩ : Rc)]).length = n1 + 1) := Lib.hid (by rw [List.length_append, HFL.out]; rfl)
        have HS6 : Hid (∀ x ∈ fl ++ [(⟨⟨what, tx, who, yes, text⟩, XA, xc⟩ : Rc)], x ∈ l) := Lib.hid (by
          intro y hy
          rcases List.mem_append.1 hy with hy | hy
          · exact HSB.out y hy
          · obtain rfl := List.mem_singleton.1 hy; exact HXM.out)
        go_wp2
        go_roundw
        case rel => exact ⟨k + 1, A6, n1 + 1, c6, A4, n4, c4, fl ++ [⟨⟨what, tx, who, yes, text⟩, XA, xc⟩], jl4, by omega, by omega, by omega, rfl, rfl, by go_num, Lib.hid ⟨HFL6.out, by rw [HYES.out, List.map_append]; rfl, O6.out, J6.out, HS6.out, B6.out⟩⟩
        case measure => simp [intOf]; omega
    · obtain rfl : k = n := by omega
      have HFS2 : Hid ((fl.map Rc.p, jps jl) = Jp.fits (l.map Rc.p)) := Lib.hid (by have h := HFS.out; rwa [List.take_of_length_le (by rw [List.length_map, HLN.out]; exact Nat.le_refl _)] at h)
      have RF : Hid (Rcs wr wr.heap.size A1 fl) := Lib.hid ⟨Recs.of_own recK_fine.hf (by decide) OW.out, fun b hb => ((HR.out.ok b (HSB.out b hb)).below BE.out).more BE.out.size⟩
      go_wp2
      refine bodyPost_ret (v := .tuple #[.slice A1 n1 c1, .slice A2 n2 c2, .bool true]) (by simp [results, Try.results10, go_sem]) rfl ⟨A1, n1, c1, A2, n2, c2, fl, jl, rfl, BE.out, Lib.hid ⟨HFL.out, by rw [← HFS2.out], by rw [← HFS2.out], RF.out, JA.out, by rw [HLN.out]; exact hn1, by rw [HLN.out]; exact hn2, HSB.out, own_slice OW.out⟩⟩
end Go.Proofs.Ytegmeodmjaijnaa
