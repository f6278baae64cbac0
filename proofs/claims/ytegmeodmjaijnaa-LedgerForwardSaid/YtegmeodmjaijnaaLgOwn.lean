/- Layer 23: own (and slices.Clone of bytes). -/
import Derived.Test.YtegmeodmjaijnaaJob
import Derived.Test.YtegmeodmjaijnaaVarB
import Derived.Laws.OwnMore
import Derived.Laws.MakeOwn
import Derived.Deep.MidRow
import Derived.OwnWalk
import Derived.Deep.DeepCutAuto
namespace Go.Proofs.Ytegmeodmjaijnaa
open Go.RowKit
set_option linter.unusedVariables false
set_option linter.unusedSimpArgs false
attribute [local go_sem] Later.cell Later.frozen setCell_twice
set_option maxHeartbeats 400000 in
theorem cloneb_any (A : Option Addr) (l : List Nat) (n c : Nat) (w : World) (h : Sq byw w w.heap.size A l) (hn : l.length ≤ 1000000) (hm : l.length = n) (hnl : A = none → c = 0) :
    Calls Try.prog 39 #[.slice A n c] w (Makes byw 5 w l) := by
  subst hm
  obtain ⟨i0, hi, hz0, hz1, hz2⟩ := info_parts info_b8
  cases A with
  | none =>
    obtain rfl : c = 0 := hnl rfl
    obtain rfl : l = [] := by
      rcases Nat.eq_zero_or_pos l.length with h0 | h0
      · exact List.eq_nil_of_length_eq_zero h0
      · obtain ⟨b, o, hA, _⟩ := h h0; cases hA
    clear h hn hnl
    have q22 : ∀ (w : World) (a : Option Addr) (n c n' c' : Nat), (binOp .eql 29 (.slice a n c) (.slice none n' c')).run Try.prog w = .ok (.bool a.isNone) w := fun w a n c n' c' => Lib.run_eql_slice_nil w _ _ a n c n' c' Try.underlying29
    go_enter Try.func39, Try.ntmps39
    go_wp2
    go_ret
    exact Makes.of_own rfl (World.ownsRow_nil _ _ _ _) (Below.refl _ _)
  | some p =>
    clear hnl
    have h1 := h.alloc (Nat.le_refl _) (.cells #[] 5)
    have q22 : ∀ (w : World) (a : Option Addr) (n c n' c' : Nat), (binOp .eql 29 (.slice a n c) (.slice none n' c')).run Try.prog w = .ok (.bool a.isNone) w := fun w a n c n' c' => Lib.run_eql_slice_nil w _ _ a n c n' c' Try.underlying29
    go_enter Try.func39, Try.ntmps39
    go_wp2_with (at_builtin; refine wpList_append_sq (f := byw) _ rfl _ _ 29 rfl (fun _ => rfl) w.heap.size 5 i0 _ _ Try.underlying29 hi hz0 rfl hz1 hz2 (by decide) _ [] rfl (own_empty w 5 .u8) w.heap.size (some p) l c _ rfl rfl h1 (by simp) (by simp; omega) (by simp) ?_; intro A' c' w' hown hg hb)
    simp only [List.nil_append] at hown
    have hb2 : Below w.heap.size w w' := (bel_alloc (Below.refl _ _) _).trans hb
    clear hg hb
    go_wp2
    go_ret
    exact Makes.of_own rfl hown hb2
/-- 'make' with a length and a greater capacity -/
theorem wpList_make_part {P : Program} (w : World) {ops : Array Oper} {rest : List Oper} {o : Oper} {a : Act} {Q : Exit → Act → World → Prop}
    (hg : o.guard = none) (l c : Operand) (t : TypeId) (hop : o.op = Op.makeSlice t l c) (e : TypeId) (i : TypeInfo) (z : Value) (h1 : P.underlying t = some (.slice e)) (h2 : P.info? e = some i) (h3 : i.zero = some z)
    (kl kc : IntKind) (L C : Int) (n m : Nat) (hl : a.eval l = .int kl L) (hc : a.eval c = .int kc C) (hL : L = (n : Int)) (hC : C = (m : Int)) (hnm : n ≤ m) (b2 : i.bytes * m ≤ 281474976710656) (b3 : m ≤ maxLen)
    (hK : wpList P ops Q rest (a.put o.dst (.slice (some ⟨w.heap.size, 0, none⟩) n m)) (w.alloc (.cells (madeCells z.cells (m * i.size)) e))) : wpList P ops Q (o :: rest) a w := by
  refine wpList_plain hg fun K hK' => ?_
  subst hL
  subst hC
  have h63' : (m : Int) ≤ 9223372036854775807 := by
    simp [maxLen] at b3
    omega
  have hb' : (i.bytes : Int) * (m : Int) ≤ 281474976710656 := by
    have h : ((i.bytes * m : Nat) : Int) ≤ 281474976710656 := by omega
    rwa [Int.natCast_mul] at h
  have hr := run_make (P := P) w t e i z h1 h2 h3 kl kc n m (by omega) (by omega) hb' h63'
  simp only [Int.toNat_natCast] at hr
  unfold Oper.wp
  simp [execOp, hop, hl, hc, hr, Result.andThen]
  exact hK' _ _ hK
theorem RowAt.cells_in {w : World} {g : Nat} {T : TypeId} : ∀ (vs P Z : List Value), RowAt w g T (P ++ Z) → vs.length ≤ Z.length → RowAt (w.setCells g P.length vs) g T (P ++ vs ++ Z.drop vs.length)
  | [], P, Z, h, _ => by simpa [World.setCells] using h
  | v :: vs, P, z :: Z, h, hl => by
    have h1 := h.set P.length v
    have h2 : (P ++ z :: Z).set P.length v = (P ++ [v]) ++ Z := by simp
    rw [h2] at h1
    have h3 := RowAt.cells_in vs (P ++ [v]) Z h1 (by simpa using hl)
    rw [show (P ++ [v]).length = P.length + 1 by simp] at h3
    have h4 : P ++ v :: vs ++ (z :: Z).drop (v :: vs).length = P ++ [v] ++ vs ++ Z.drop vs.length := by simp
    rw [h4]
    exact h3
  | v :: vs, P, [], _, hl => by simp at hl
theorem Only.setCells {g : Nat} {w : World} : ∀ (vs : List Value) (o : Nat) (w' : World), Only g w w' → Only g w (w'.setCells g o vs)
  | [], _, _, h => h
  | v :: vs, o, w', h => Only.setCells vs (o + 1) _ (Only.set h v)
theorem RowAt.there {w : World} {g : Nat} {T : TypeId} {C : List Value} (h : RowAt w g T C) {o n : Nat} (hn : o + n ≤ C.length) : w.there g o n := fun j hj => by
  refine ⟨?_, h.frozen _⟩
  rw [h.cells]
  rw [List.getElem?_eq_getElem (by omega)]
  rfl
/-- a row known whole, as an own one -/
theorem own_of_rowAt {w : World} {base g n m s : Nat} {T : TypeId} {xs Z : List Value} (h : RowAt w g T (xs ++ Z)) (hb : base ≤ g) (hx : xs.length = n * s) (hz : xs.length + Z.length = m * s) (hnm : n ≤ m) (hm : m ≤ maxLen) : w.ownsRow base T s (.slice (some ⟨g, 0, none⟩) n m) n xs :=
  ⟨hx, .inr ⟨g, m, _, rfl, hb, h, hnm, hm, by simpa using hz, by rw [← hx]; simp⟩⟩
theorem Only.grown {g : Nat} {w w' : World} (h : Only g w w') : w.grownBy w' (some g) := ⟨h.os, h.tape, h.output, by rw [h.size]; exact Nat.le_refl _, fun k _ hk => h.block k (fun e => hk (by rw [e]))⟩
theorem jbs_range {w : World} {B b o k : Nat} {x : Jb} {l : List Jb} (h : Jbs w B (some ⟨b, o, none⟩) l) (hk : l[k]? = some x) : w.rangeAt b (o + k * 4) (jbF x) := by
  intro j v hv
  obtain ⟨b', o', hA, _, hc⟩ := h.rc (Nat.lt_of_le_of_lt (Nat.zero_le _) (List.getElem?_eq_some_iff.1 hk).1)
  obtain ⟨rfl, rfl⟩ : b = b' ∧ o = o' := by simpa using hA
  rw [Nat.add_assoc]
  exact hc k x hk j v hv
def jbZ (n : Nat) : List Value := (madeCells #[Value.int .u32 0, .int .u8 0, .slice none 0 0, .int .u8 0] (n * 4)).toList
theorem jbZ_length (n : Nat) : (jbZ n).length = n * 4 := by unfold jbZ; rw [Array.length_toList, size_madeCells]
set_option maxRecDepth 100000 in
set_option maxHeartbeats 1000000 in
theorem jown_any (A : Option Addr) (l : List Jb) (c n : Nat) (w : World) (hn : l.length = n) (h : Jbs w w.heap.size A l) (hn63 : n ≤ 1000000) (hsh : ∀ y ∈ l, y.p.text.length ≤ 1000000) :
    Calls Try.prog 30 #[.slice A n c] w fun e w' => ∃ g jl, e = .returned (.slice (some ⟨g, 0, none⟩) n (n + 1)) ∧ jps jl = jps l ∧ JL w' w.heap.size (some ⟨g, 0, none⟩) n (n + 1) jl ∧ Below w.heap.size w w' := by
  obtain ⟨i0, hif, hz0, hz1, hz2⟩ := info_parts info_job
  have HN := Lib.hid hn
  have HH := Lib.hid h
  have HS := Lib.hid hsh
  clear hn h hsh
  have HZ : Hid (RowAt (w.alloc (.cells (madeCells #[Value.int .u32 0, .int .u8 0, .slice none 0 0, .int .u8 0] ((n + 1) * 4)) 38)) w.heap.size 38 (jbZ (n + 1))) := Lib.hid (by
    have := RowAt.new w 38 (jbZ (n + 1))
    unfold jbZ at this ⊢
    simpa using this)
  have HB0 : Hid (Below w.heap.size w (w.alloc (.cells (madeCells #[Value.int .u32 0, .int .u8 0, .slice none 0 0, .int .u8 0] ((n + 1) * 4)) 38))) := Lib.hid (bel_alloc (Below.refl _ _) _)
  go_enter Try.func30, Try.ntmps30
  go_wp2_with (at_make; (refine wpList_make_part _ rfl _ _ 25 rfl 38 i0 _ Try.underlying25 hif hz0 _ _ _ _ n (n + 1) rfl rfl rfl (by simp) (by omega) (by rw [hz2]; omega) (by unfold Go.maxLen; omega) ?_); rw [hz1])
  obtain ⟨W1, hW1⟩ : ∃ W1, w.alloc (.cells (madeCells #[Value.int .u32 0, .int .u8 0, .slice none 0 0, .int .u8 0] ((n + 1) * 4)) 38) = W1 := ⟨_, rfl⟩
  rw [hW1] at HZ HB0
  rw [hW1]
  clear hW1
  obtain ⟨g, hg⟩ : ∃ g, w.heap.size = g := ⟨_, rfl⟩
  have HG := Lib.hid hg
  rw [hg] at HZ ⊢
  clear hg
  go_loopw [14] (fun i wr => ∃ (k : Nat) (jl : List Jb), k ≤ n ∧ i = .int .i64 k ∧ jl.length = k ∧ RowAt wr g 38 (jl.flatMap jbF ++ (jbZ (n + 1)).drop (k * 4)) ∧ jps jl = jps (l.take k) ∧ (∀ y ∈ jl, wr.ownsRow (g + 1) 5 1 (.slice y.A y.p.text.length y.c) y.p.text.length (y.p.text.map byw) ∧ y.p.Fit) ∧ Below w.heap.size w wr) (fun i _ => n - (intOf i).toNat)
  case atStart => exact ⟨0, [], by omega, rfl, rfl, by simpa using HZ.out, rfl, by simp, HB0.out⟩
  case round =>
    obtain ⟨k, jl, hk, rfl, hjl, hrow, hps, htx, hbe⟩ := hrel
    have RO := Lib.hid hrow
    have BE := Lib.hid hbe
    have PS := Lib.hid hps
    have TX := Lib.hid htx
    have JL0 := Lib.hid hjl
    clear HZ HB0
    by_cases hlt : k < n
    · obtain ⟨g1, o1, x, rfl, hg1, hx, hxo, hx0, hx1, hx2, hx3⟩ := (HH.out.to hbe).at_ (k := k) (by rw [HN.out]; exact hlt)
      have hltI : (k : Int) < (n : Int) := by omega
      have h0I : (0 : Int) ≤ (k : Int) := by omega
      have HX := Lib.hid hx
      have HXO := Lib.hid hxo
      have hgr : g1 < wr.heap.size := hg1
      have hggr : g < wr.heap.size := hrow.lt
      obtain ⟨m, hm⟩ : ∃ m, x.p.text.length = m := ⟨_, rfl⟩
      have HM := Lib.hid hm
      rw [hm] at hx2
      clear hrow hbe hps htx hjl hx hxo hm
      go_upto_region 5 with fail
      obtain ⟨V, hV⟩ : ∃ V, wr.alloc (.cells #[.int .u32 (x.p.tx : Int), .int .u8 (x.p.who : Int), .slice x.A m x.c, .int .u8 (x.p.st : Int)] 38) = V := ⟨_, rfl⟩
      obtain ⟨gv, hgv⟩ : ∃ gv, wr.heap.size = gv := ⟨_, rfl⟩
      have RV : Hid (RowAt V gv 38 (jbV x.p.tx x.p.who x.A m x.c x.p.st)) := Lib.hid (by rw [← hV, ← hgv]; exact RowAt.new _ _ _)
      have bV : Below wr.heap.size wr V := by rw [← hV]; exact bel_alloc (Below.refl _ _) _
      rw [hV]
      have HGV := Lib.hid hgv
      have BV := Lib.hid bV
      have ROV := Lib.hid (RO.out.to bV)
      have XOV := Lib.hid (HXO.out.to bV)
      rw [hgv]
      clear hV hgv bV
      have dlt : gv < (V).heap.size := RV.out.lt
      have dlu : gv < (V).heap.size + 1 := Nat.lt_succ_of_lt RV.out.lt
      have d0 : (V).cell? ⟨gv, 0, none⟩ = some (.int .u32 (x.p.tx : Int)) := RV.out.cells 0
      have dz0 : (V).frozen? ⟨gv, 0, none⟩ = false := RV.out.frozen 0
      have d1 : (V).cell? ⟨gv, 1, none⟩ = some (.int .u8 (x.p.who : Int)) := RV.out.cells 1
      have dz1 : (V).frozen? ⟨gv, 1, none⟩ = false := RV.out.frozen 1
      have d2 : (V).cell? ⟨gv, 2, none⟩ = some (.slice x.A m x.c) := RV.out.cells 2
      have dz2 : (V).frozen? ⟨gv, 2, none⟩ = false := RV.out.frozen 2
      have d3 : (V).cell? ⟨gv, 3, none⟩ = some (.int .u8 (x.p.st : Int)) := RV.out.cells 3
      have dz3 : (V).frozen? ⟨gv, 3, none⟩ = false := RV.out.frozen 3
      go_wp2_with fail
      refine (cloneb_any x.A x.p.text m x.c V XOV.out.sq (HS.out x (List.mem_of_getElem? HX.out)) HM.out XOV.out.nl).mono ?_
      rintro e w2 ⟨A2, c2, rfl, o2, b2⟩
      rw [HM.out] at o2 ⊢
      have RV2 := Lib.hid (RV.out.to b2)
      have RO2 := Lib.hid (ROV.out.to b2)
      have B2 := Lib.hid (BV.out.trans (b2.mono BV.out.size))
      have O2 := Lib.hid o2
      have hgg : g ≠ gv := by have := HGV.out; omega
      clear o2 b2 d0 d1 d2 d3 dz0 dz1 dz2 dz3 dlt dlu
      have elt : gv < (w2).heap.size := RV2.out.lt
      have elu : gv < (w2).heap.size + 1 := Nat.lt_succ_of_lt RV2.out.lt
      have e0 : (w2).cell? ⟨gv, 0, none⟩ = some (.int .u32 (x.p.tx : Int)) := RV2.out.cells 0
      have ez0 : (w2).frozen? ⟨gv, 0, none⟩ = false := RV2.out.frozen 0
      have e1 : (w2).cell? ⟨gv, 1, none⟩ = some (.int .u8 (x.p.who : Int)) := RV2.out.cells 1
      have ez1 : (w2).frozen? ⟨gv, 1, none⟩ = false := RV2.out.frozen 1
      have e2 : (w2).cell? ⟨gv, 2, none⟩ = some (.slice x.A m x.c) := RV2.out.cells 2
      have ez2 : (w2).frozen? ⟨gv, 2, none⟩ = false := RV2.out.frozen 2
      have e3 : (w2).cell? ⟨gv, 3, none⟩ = some (.int .u8 (x.p.st : Int)) := RV2.out.cells 3
      have ez3 : (w2).frozen? ⟨gv, 3, none⟩ = false := RV2.out.frozen 3
      obtain ⟨w3, hw3⟩ : ∃ w3, w2.setCell ⟨gv, 2, none⟩ (.slice A2 m c2) = w3 := ⟨_, rfl⟩
      have o3 : Only gv w2 w3 := by rw [← hw3]; exact (Only.refl _ _).set _
      have RO3 := Lib.hid (RO2.out.only o3 hgg)
      have hlp : (jl.flatMap jbF).length = k * 4 := by rw [jflat_length, JL0.out]
      have hlz : ((jbZ (n + 1)).drop (k * 4)).length = (n + 1) * 4 - k * 4 := by rw [List.length_drop, jbZ_length]
      have HTH : Hid (w3.there g (k * 4) 4) := Lib.hid (RO3.out.there (by rw [List.length_append, hlp, hlz]; omega))
      have HW3 := Lib.hid hw3
      have O3 := Lib.hid o3
      have HLP := Lib.hid hlp
      have HLZ := Lib.hid hlz
      clear o3 hlp hlz hw3
      go_wp2_with ((first | (rw [HW3.out]) | skip); (refine wpList_store_mid rfl 38 (.tmp 26) (.tmp 25) rfl g (k * 4) #[.int .u32 (x.p.tx : Int), .int .u8 (x.p.who : Int), .slice A2 m c2, .int .u8 (x.p.st : Int)] rfl rfl HTH.out size_job (by simp [Value.oneCell']) ?_); obtain ⟨w4, hw4⟩ : ∃ w4, w3.setCells g (k * 4) [.int .u32 (x.p.tx : Int), .int .u8 (x.p.who : Int), .slice A2 m c2, .int .u8 (x.p.st : Int)] = w4 := ⟨_, rfl⟩; rw [hw4]; have R4 : Hid (RowAt w4 g 38 (jl.flatMap jbF ++ jbV x.p.tx x.p.who A2 m c2 x.p.st ++ ((jbZ (n + 1)).drop (k * 4)).drop 4)) := Lib.hid (by rw [← hw4, ← HLP.out]; exact RowAt.cells_in [_, _, _, _] _ _ (by rw [HLP.out]; exact RO3.out) (by rw [HLP.out, HLZ.out]; simp; omega)); have K4 : Hid (Only g w3 w4) := Lib.hid (by rw [← hw4]; exact Only.setCells _ _ _ (Only.refl _ _)); clear hw4)
      go_roundw
      case rel =>
        have hgv := HGV.out
        have hGw := HG.out
        have hm := HM.out
        have hvs := RV.out.lt
        refine ⟨k + 1, jl ++ [⟨x.p, A2, c2⟩], by omega, by go_num, by rw [List.length_append, JL0.out]; rfl, ?_, ?_, fun y hy => ?_, ?_⟩
        · have h := R4.out
          rw [show (jl ++ [(⟨x.p, A2, c2⟩ : Jb)]).flatMap jbF = jl.flatMap jbF ++ jbV x.p.tx x.p.who A2 m c2 x.p.st by simp [hm]]
          rw [List.drop_drop] at h
          rw [show (k + 1) * 4 = k * 4 + 4 by omega]
          exact h
        · rw [jps, List.map_append, List.take_add_one, HX.out, Option.toList, jps, List.map_append]
          exact congrArg (· ++ [x.p]) PS.out
        · have key : w3.ownsRow (g + 1) 5 1 (.slice y.A y.p.text.length y.c) y.p.text.length (y.p.text.map byw) ∧ y.p.Fit := by
            rcases List.mem_append.1 hy with hy | hy
            · have h := TX.out y hy
              refine ⟨own_grown_j (own_below h.1 B2.out) O3.out.grown (fun p hp e => ?_), h.2⟩
              have h1 := (own_at_s h.1 p hp).2.1
              have h2 := Option.some.inj e
              omega
            · obtain rfl := List.mem_singleton.1 hy
              have h := O2.out
              refine ⟨own_grown_j (own_more (by rw [hm]; exact h) (by omega)) O3.out.grown (fun p hp e => ?_), HXO.out.fit⟩
              have h1 := (own_at_s h p hp).1
              have h2 := Option.some.inj e
              omega
          exact ⟨K4.out.own key.1 (Nat.lt_succ_self g), key.2⟩
        · exact ((BE.out.trans (B2.out.mono BE.out.size)).trans (O3.out.below (by have := BE.out.size; omega))).trans (K4.out.below (by omega))
      case measure => simp [intOf]; omega
    · obtain rfl : k = n := by omega
      go_wp2
      go_ret
      have hGw := HG.out
      refine ⟨g, jl, rfl, by rw [PS.out, List.take_of_length_le (by rw [HN.out]; exact Nat.le_refl _)], ⟨JL0.out, ?_, fun y hy => own_more (TX.out y hy).1 (by omega), fun y hy p hp e => ?_, fun y hy => (TX.out y hy).2⟩, BE.out⟩
      · exact own_of_rowAt RO.out (by omega) (by rw [jflat_length, JL0.out]) (by rw [jflat_length, JL0.out, List.length_drop, jbZ_length]; omega) (by omega) (by unfold maxLen; omega)
      · have h1 := (own_at_s (TX.out y hy).1 p hp).1
        have h2 : p.block = g := by simpa [Value.ownBlock] using e
        omega
end Go.Proofs.Ytegmeodmjaijnaa
