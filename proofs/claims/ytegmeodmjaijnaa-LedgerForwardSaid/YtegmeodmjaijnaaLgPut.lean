/- Layer 23: put. -/
import Derived.Test.YtegmeodmjaijnaaLgFind
import Derived.Test.YtegmeodmjaijnaaLgSt2
import Derived.Test.YtegmeodmjaijnaaNvRight
namespace Go.Proofs.Ytegmeodmjaijnaa
open Go.RowKit
set_option linter.unusedVariables false
set_option linter.unusedSimpArgs false
attribute [local go_sem] Later.cell Later.frozen setCell_twice
theorem step_append_own_at {P : Program} {w : World} {ops : Array Oper} {o : Oper} {a : Act} {K : Act → World → Prop} {Q : Exit → Act → World → Prop} {E : Prop} (hgd : o.guard = none) (s x : Operand) (t : TypeId)
    (ho : o.op = .call { callee := .builtin .append, args := #[s, x], argTypes := #[t, t] })
    (base : Nat) (e : TypeId) (i : TypeInfo) (z : Value) (size bytes : Nat) (ht : P.underlying t = some (.slice e)) (hi : P.info? e = some i) (hz : i.zero = some z)
    (hsize : i.size = size) (hby : i.bytes = bytes) (hzs : z.cells.size = size) (hsz : 0 < size)
    (v : Value) (n : Nat) (xs : List Value) (hs : a.eval s = v) (hown : w.ownsRow base e size v n xs)
    (ad : Addr) (m c : Nat) (news : List Value) (hx : a.eval x = .slice (some ad) m c) (hl : news.length = m * size) (hnews : ∀ j u, news[j]? = some u → w.cell? (ad.add j) = some u) (h1 : ∀ u ∈ news, u.oneCell' = true)
    (h63 : n + m ≤ maxLen) (hbytes : (n + m) * bytes ≤ 140737488355328) (hbase : base ≤ w.heap.size)
    (h : ∀ A' c' w', w'.ownsRow base e size (.slice A' (n + m) c') (n + m) (xs ++ news) → w.grownBy w' v.ownBlock → ((Value.slice A' (n + m) c').ownBlock = v.ownBlock ∨ (Value.slice A' (n + m) c').ownBlock = some w.heap.size) → K (a.put o.dst (.slice A' (n + m) c')) w') :
    if Region.wanted o (yielded ops a.tmps) = true then Oper.wp P o a w K Q else E := by
  have hw : Region.wanted o (yielded ops a.tmps) = true := by simp [Region.wanted, hgd]
  rw [if_pos hw]
  obtain ⟨v', w', hr, h2, h3, _, h5⟩ := run_append_own_at (P := P) w base t o.type e i z size bytes ht hi hz hsize hby hzs hsz v n xs hown ad m c news hl hnews h1 h63 hbytes hbase
  unfold Oper.wp execOp
  simp only [ho, resolve, invoke, builtin, Sem.run_bind, Sem.run_pure, Result.andThen_ok, List.map_toArray, List.map_cons, List.map_nil, hs, hx, hr]
  have hf : ∃ A' c', v' = .slice A' (n + m) c' := by
    rcases h2.2 with ⟨rfl, h0⟩ | ⟨g, cap, cur, rfl, _⟩
    · exact ⟨none, 0, by rw [h0]⟩
    · exact ⟨_, _, rfl⟩
  obtain ⟨A', c', rfl⟩ := hf
  exact h A' c' w' h2 h3 h5
theorem yieldsIf_look {P : Program} {ops : Array Oper} {S : World → Prop} {op : Oper} {a : Act} (hw : Region.wanted op (yielded ops a.tmps) = true) (t : TypeId) (m x : Operand) (ho : op.op = .lookup t m x true) (mv kv v : Value) (hm : a.eval m = mv) (hx : a.eval x = kv) (hS : ∀ w, S w → (Instr.lookup t mv kv true).run P w = .ok v w) : YieldsIf P ops S op v a :=
  .inl ⟨hw, fun w hw' => by
    unfold execOp
    simp only [ho, hm, hx, Sem.run_bind, Sem.run_pure, hS w hw', Result.andThen_ok]⟩
theorem flat_set {l : List Jb} {i s : Nat} {y : Jb} (h : l[i]? = some y) : (l.set i ⟨⟨y.p.tx, y.p.who, y.p.text, s⟩, y.A, y.c⟩).flatMap jbF = (l.flatMap jbF).set (i * 4 + 3) (.int .u8 (s : Int)) := by
  induction l generalizing i with
  | nil => cases h
  | cons x l ih =>
    cases i with
    | zero =>
      obtain rfl : x = y := by simpa using h
      simp [jbF, jbV]
    | succ i =>
      have := ih (i := i) (by simpa using h)
      rw [List.set_cons_succ, List.flatMap_cons, this, List.flatMap_cons]
      rw [List.set_append_right _ _ (by rw [jbF_length]; omega), jbF_length]
      congr 2
      omega
theorem JL.set {w : World} {base g n c i s : Nat} {l : List Jb} {y : Jb} (h : JL w base (some ⟨g, 0, none⟩) n c l) (hy : l[i]? = some y) (hs : s < 256) : JL (w.setCell ⟨g, i * 4 + 3, none⟩ (.int .u8 (s : Int))) base (some ⟨g, 0, none⟩) n c (l.set i ⟨⟨y.p.tx, y.p.who, y.p.text, s⟩, y.A, y.c⟩) := by
  have hst := h.own.stored (i * 4 + 3) (.int .u8 (s : Int))
  have key : ∀ z ∈ l.set i ⟨⟨y.p.tx, y.p.who, y.p.text, s⟩, y.A, y.c⟩, w.ownsRow base 5 1 (.slice z.A z.p.text.length z.c) z.p.text.length (z.p.text.map byw) ∧ (∀ p, z.A = some p → some p.block ≠ (Value.slice (some ⟨g, 0, none⟩) n c).ownBlock) ∧ z.p.Fit := by
    intro z hz
    rcases List.mem_or_eq_of_mem_set hz with hz | rfl
    · exact ⟨h.txt z hz, h.off z hz, h.fit z hz⟩
    · have hm := List.mem_of_getElem? hy
      have hf := h.fit y hm
      exact ⟨h.txt y hm, h.off y hm, ⟨hf.tx, hf.who, hf.text, hs⟩⟩
  refine ⟨by rw [List.length_set]; exact h.len, by rw [flat_set hy]; exact hst.1, fun z hz => ?_, fun z hz => (key z hz).2.1, fun z hz => (key z hz).2.2⟩
  exact own_grown_j (key z hz).1 hst.2 (key z hz).2.1
theorem jps_set {l : List Jb} {i s : Nat} {y : Jb} (h : l[i]? = some y) : jps (l.set i ⟨⟨y.p.tx, y.p.who, y.p.text, s⟩, y.A, y.c⟩) = (jps l).set i ⟨y.p.tx, y.p.who, y.p.text, s⟩ := by
  rw [jps, List.map_set]
theorem last_get {l : List Jb} {k : Nat} {y : Jb} (hl : l.length = k + 1) (h : l[k]? = some y) : Jp.lastTx (jps l) = y.p.tx := by
  unfold Jp.lastTx
  rw [List.getLast?_eq_getElem?, List.length_map, hl, Nat.add_sub_cancel, jps, List.getElem?_map, h]
  rfl
def PutP (base : Nat) (jl : List Jb) (x : Nr) (w : World) (e : Ending) (w' : World) : Prop :=
  Below base w w' ∧ ((Jp.put (jps jl) x = none ∧ e = .returned (.tuple #[.slice none 0 0, .bool false])) ∨ ∃ L A' n' c' jl', Jp.put (jps jl) x = some L ∧ e = .returned (.tuple #[.slice A' n' c', .bool true]) ∧ jps jl' = L ∧ JL w' base A' n' c' jl')
theorem PutP.no {base : Nat} {jl : List Jb} {x : Nr} {w w' : World} (h : Jp.put (jps jl) x = none) (hb : Below base w w') : PutP base jl x w (.returned (.tuple #[.slice none 0 0, .bool false])) w' := ⟨hb, .inl ⟨h, rfl⟩⟩
theorem put_wrong {l : List Jp} {x : Nr} (h : x.right = false) : Jp.put l x = none := by unfold Jp.put; rw [if_pos h]
theorem put_reserve {l : List Jp} {x : Nr} (h : x.right = true) (h1 : x.what = 1) : Jp.put l x = some l := by unfold Jp.put; rw [if_neg (by rw [h]; decide), if_pos h1]
theorem put_begin {l : List Jp} {x : Nr} (h : x.right = true) (h1 : x.what = 2) : Jp.put l x = (match Jp.step 2 x.yes 0 with | none => none | some s => if x.tx ≤ Jp.lastTx l then none else some (l ++ [⟨x.tx, x.who, x.text, s⟩])) := by
  unfold Jp.put
  rw [if_neg (by rw [h]; decide), if_neg (by omega), if_pos h1]
  rfl
theorem put_other {l : List Jp} {x : Nr} (h : x.right = true) (h1 : x.what ≠ 1) (h2 : x.what ≠ 2) : Jp.put l x = (match Jp.find l x.tx with
    | none => none
    | some i => match l[i]? with
      | none => none
      | some j => match Jp.step x.what x.yes j.st with
        | none => none
        | some s => some (l.set i ⟨j.tx, j.who, j.text, s⟩)) := by
  unfold Jp.put
  rw [if_neg (by rw [h]; decide), if_neg h1, if_neg h2]
  rfl
set_option maxRecDepth 100000 in
set_option maxHeartbeats 2000000 in
theorem put_any (A : Option Addr) (n c : Nat) (jl : List Jb) (what tx who : Nat) (yes : Bool) (text : List Nat) (XA : Option Addr) (m xc gm base : Nat) (w : World) (hJ : JL w base A n c jl) (hm : text.length = m) (hsq : Sq byw w w.heap.size XA text) (hfit : (Nr.mk what tx who yes text).Fit) (hnl : XA = none → xc = 0)
    (hM : StepMap w gm (fun _ => true)) (hs : Jp.Sorted (jps jl)) (hb : base ≤ w.heap.size) (hn : n ≤ 100000) (ht : m ≤ 1000000) :
    Calls Try.prog 29 #[.slice A n c, .agg (rcV what tx who yes XA m xc).toArray, .map (some gm)] w (PutP base jl ⟨what, tx, who, yes, text⟩ w) := by
  have hfr : Below w.heap.size w (w.alloc (.cells #[.int .u8 (what : Int), .int .u32 (tx : Int), .int .u8 (who : Int), .bool yes, .slice XA m xc] 31)) := bel_alloc (Below.refl _ _) _
  have J0 := Lib.hid (hJ.to hfr)
  have Q0 := Lib.hid ((hsq.below hfr).more hfr.size)
  have M0 := Lib.hid (hM.to hfr)
  have B0 : Hid (Below base w _) := Lib.hid (hfr.mono hb)
  have R0 : Hid (RowAt (w.alloc (.cells #[.int .u8 (what : Int), .int .u32 (tx : Int), .int .u8 (who : Int), .bool yes, .slice XA m xc] 31)) w.heap.size 31 (rcV what tx who yes XA m xc)) := Lib.hid (RowAt.new _ _ _)
  have HS := Lib.hid hs
  have HF := Lib.hid hfit
  have HM := Lib.hid hm
  have HLJ := Lib.hid hJ.len
  have HOB := Lib.hid (fun q (hq : (Value.slice A n c).ownBlock = some q) => (hJ.own.lt q hq).2)
  obtain ⟨iJ, hifJ, hj0, hj1, hj2⟩ := info_parts info_job
  have HWS : Hid (what < 256) := Lib.hid hfit.what
  clear hfr hJ hsq hM hs hfit
  obtain ⟨r, hr⟩ : ∃ r, (Nr.mk what tx who yes text).right = r := ⟨_, rfl⟩
  have HR := Lib.hid hr
  clear hr
  go_enter Try.func29, Try.ntmps29
  go_wp2_with fail
  generalize w.alloc (.cells #[.int .u8 (what : Int), .int .u32 (tx : Int), .int .u8 (who : Int), .bool yes, .slice XA m xc] 31) = W0 at *
  obtain ⟨gv, hgv⟩ : ∃ gv, w.heap.size = gv := ⟨_, rfl⟩
  have HGV := Lib.hid hgv
  rw [hgv] at R0 hb ⊢
  clear hgv
  refine (nright_any ⟨what, tx, who, yes, text⟩ XA xc m hm W0).mono ?_
  rintro e w1 ⟨rfl, b1⟩
  have J1 := Lib.hid (J0.out.to b1)
  have Q1 := Lib.hid ((Q0.out.below b1).more b1.size)
  have M1 := Lib.hid (M0.out.to b1)
  have R1 := Lib.hid (R0.out.to b1)
  have hb0 : base ≤ W0.heap.size := by have := R0.out.lt; omega
  have B1 := Lib.hid (B0.out.trans (b1.mono hb0))
  have hb1 : base ≤ w1.heap.size := Nat.le_trans hb0 b1.size
  rw [HR.out]
  clear b1 hb0 J0 Q0 M0 R0 B0 hm
  cases r
  · have HNO : Hid (Jp.put (jps jl) ⟨what, tx, who, yes, text⟩ = none) := Lib.hid (put_wrong HR.out)
    have BX := B1
    go_wp2
    go_ret2
    exact PutP.no HNO.out BX.out
  have dlt : gv < (w1).heap.size := R1.out.lt
  have dlu : gv < (w1).heap.size + 1 := Nat.lt_succ_of_lt R1.out.lt
  have d0 : (w1).cell? ⟨gv, 0, none⟩ = some (.int .u8 (what : Int)) := R1.out.cells 0
  have dz0 : (w1).frozen? ⟨gv, 0, none⟩ = false := R1.out.frozen 0
  have d1 : (w1).cell? ⟨gv, 1, none⟩ = some (.int .u32 (tx : Int)) := R1.out.cells 1
  have dz1 : (w1).frozen? ⟨gv, 1, none⟩ = false := R1.out.frozen 1
  have d2 : (w1).cell? ⟨gv, 2, none⟩ = some (.int .u8 (who : Int)) := R1.out.cells 2
  have dz2 : (w1).frozen? ⟨gv, 2, none⟩ = false := R1.out.frozen 2
  have d3 : (w1).cell? ⟨gv, 3, none⟩ = some (.bool yes) := R1.out.cells 3
  have dz3 : (w1).frozen? ⟨gv, 3, none⟩ = false := R1.out.frozen 3
  have d4 : (w1).cell? ⟨gv, 4, none⟩ = some (.slice XA m xc) := R1.out.cells 4
  have dz4 : (w1).frozen? ⟨gv, 4, none⟩ = false := R1.out.frozen 4
  by_cases hw1 : what = 1
  · subst hw1
    have HP : Hid (Jp.put (jps jl) ⟨1, tx, who, yes, text⟩ = some (jps jl)) := Lib.hid (put_reserve HR.out rfl)
    go_wp2
    go_ret2
    exact ⟨B1.out, .inr ⟨_, A, n, c, jl, HP.out, rfl, rfl, J1.out⟩⟩
  by_cases hw2 : what = 2
  · subst hw2
    have HP := Lib.hid (put_begin (l := jps jl) (x := ⟨2, tx, who, yes, text⟩) HR.out rfl)
    obtain ⟨so, hso⟩ : ∃ so, Jp.step 2 yes 0 = so := ⟨_, rfl⟩
    have hlook : (Instr.lookup 54 (.map (some gm)) (.agg #[.int .u8 2, .bool yes, .int .u8 0]) true).run Try.prog w1 = .ok (.tuple #[.int .u8 (((Jp.step 2 yes 0).getD 0 : Nat) : Int), .bool (Jp.step 2 yes 0).isSome]) w1 := run_look_step 2 yes 0 (by decide) (by decide) M1.out
    rw [hso] at hlook
    have HSO := Lib.hid hso
    clear hso
    have BX := B1
    by_cases hn0 : n = 0
    · subst hn0
      have HLT : Hid (Jp.lastTx (jps jl) = 0) := Lib.hid (by rw [List.eq_nil_of_length_eq_zero HLJ.out]; rfl)
      by_cases ht0 : tx = 0
      · subst ht0
        cases so with
        | none =>
          simp only [Option.getD_none, Option.isSome_none] at hlook
          have HNO := Lib.hid (HP.out.trans (show _ = none by simp only; rw [HSO.out]))
          go_wp2
          go_ret2
          exact PutP.no HNO.out BX.out
        | some s =>
          simp only [Option.getD_some, Option.isSome_some] at hlook
          have HNO := Lib.hid (HP.out.trans (show _ = none by simp only; rw [HSO.out]; simp only; rw [if_pos (by rw [HLT.out]; omega)]))
          go_wp2
          go_ret2
          exact PutP.no HNO.out BX.out
      · have htp : 0 < tx := by omega
        cases so with
        | none =>
          simp only [Option.getD_none, Option.isSome_none] at hlook
          have HNO := Lib.hid (HP.out.trans (show _ = none by simp only; rw [HSO.out]))
          go_wp2
          go_ret2
          exact PutP.no HNO.out BX.out
        | some s =>
          simp only [Option.getD_some, Option.isSome_some] at hlook
          have HYES : Hid (Jp.put (jps jl) ⟨2, tx, who, yes, text⟩ = some (jps jl ++ [⟨tx, who, text, s⟩])) := Lib.hid (by rw [HP.out]; simp only; rw [HSO.out]; simp only; rw [if_neg (by rw [HLT.out]; omega)])
          go_upto_region 12 with fail
          have bd1 : Below w1.heap.size w1 w1.drew := (Below.refl _ _).drew
          refine wp_region_held_drew (S := (fun w' => w'.cell? ⟨gv, 1, none⟩ = some (.int .u32 (tx : Int)) ∧ w'.cell? ⟨gv, 2, none⟩ = some (.int .u8 (who : Int)) ∧ w'.cell? ⟨gv, 4, none⟩ = some (.slice XA m xc))) (by kernel_rfl) ?_ (fun hHeld => ?_)
          · exact ⟨d1, d2, d4⟩
          refine takeD (i := 0) (oi := _) (v := ?vv1) (d := some 52) rfl (by kernel_rfl) (by kernel_rfl) (by kernel_rfl) (by kernel_rfl) (fun _ _ _ h => h) (Or.inl ⟨by kernel_rfl, ?_⟩) (by assumption) ?_
          rotate_left 1
          · intro W_ hSw; (try dsimp only at hSw); go_simp; (first | done | with_reducible rfl)
          try simp only [Act.put, List.setIfInBounds_toArray, List.set_cons_zero, List.set_cons_succ]
          refine takeD (i := 1) (oi := _) (v := ?vv2) (d := some 53) rfl (by kernel_rfl) (by kernel_rfl) (by kernel_rfl) (by kernel_rfl) (fun _ _ _ h => h) (Or.inl ⟨by kernel_rfl, ?_⟩) (by assumption) ?_
          rotate_left 1
          · intro W_ hSw; (try dsimp only at hSw); go_simp; (first | done | with_reducible rfl)
          try simp only [Act.put, List.setIfInBounds_toArray, List.set_cons_zero, List.set_cons_succ]
          refine takeD (i := 2) (oi := _) (v := ?vv3) (d := some 54) rfl (by kernel_rfl) (by kernel_rfl) (by kernel_rfl) (by kernel_rfl) (fun _ _ _ h => h) (Or.inl ⟨by kernel_rfl, ?_⟩) (by assumption) ?_
          rotate_left 1
          · intro W_ hSw; (try dsimp only at hSw); go_simp; (first | done | with_reducible rfl)
          try simp only [Act.put, List.setIfInBounds_toArray, List.set_cons_zero, List.set_cons_succ]
          refine takeD (i := 3) (oi := _) (v := ?vv4) (d := some 55) rfl (by kernel_rfl) (by kernel_rfl) (by kernel_rfl) (by kernel_rfl) (fun _ _ _ h => h) (Or.inl ⟨by kernel_rfl, ?_⟩) (by assumption) ?_
          rotate_left 1
          · intro W_ hSw; (try dsimp only at hSw); go_simp; (first | done | with_reducible rfl)
          try simp only [Act.put, List.setIfInBounds_toArray, List.set_cons_zero, List.set_cons_succ]
          refine takeD (i := 4) (oi := _) (v := ?vv5) (d := some 56) rfl (by kernel_rfl) (by kernel_rfl) (by kernel_rfl) (by kernel_rfl) (fun _ _ _ h => h) (Or.inl ⟨by kernel_rfl, ?_⟩) (by assumption) ?_
          rotate_left 1
          · intro W_ hSw; (try dsimp only at hSw); go_simp; (first | done | with_reducible rfl)
          try simp only [Act.put, List.setIfInBounds_toArray, List.set_cons_zero, List.set_cons_succ]
          refine takeD (i := 5) (oi := _) (v := ?vv6) (d := some 57) rfl (by kernel_rfl) (by kernel_rfl) (by kernel_rfl) (by kernel_rfl) (fun _ _ _ h => h) (Or.inl ⟨by kernel_rfl, ?_⟩) (by assumption) ?_
          rotate_left 1
          · intro W_ hSw; (try dsimp only at hSw); go_simp; (first | done | with_reducible rfl)
          try simp only [Act.put, List.setIfInBounds_toArray, List.set_cons_zero, List.set_cons_succ]
          refine takeD (i := 6) (oi := _) (v := ?vv7) (d := some 58) rfl (by kernel_rfl) (by kernel_rfl) (by kernel_rfl) (by kernel_rfl) (fun _ _ _ h => h) (Or.inl ⟨by kernel_rfl, ?_⟩) (by assumption) ?_
          rotate_left 1
          · intro W_ hSw; (try dsimp only at hSw); go_simp; (first | done | with_reducible rfl)
          try simp only [Act.put, List.setIfInBounds_toArray, List.set_cons_zero, List.set_cons_succ]
          refine takeD (i := 8) (oi := _) (v := ?vv8) (d := some 60) rfl (by kernel_rfl) (by kernel_rfl) (by kernel_rfl) (by kernel_rfl) (fun _ _ _ h => h) (Or.inl ⟨by kernel_rfl, ?_⟩) (by assumption) ?_
          rotate_left 1
          · intro W_ hSw; (try dsimp only at hSw); go_simp; (first | done | with_reducible rfl)
          try simp only [Act.put, List.setIfInBounds_toArray, List.set_cons_zero, List.set_cons_succ]
          refine wpAnyH_ready (rs := [7]) (by kernel_rfl) (by simp) ?_
          refine AllReadyH.cons (o := _) rfl (fun K hK => ?_) AllReadyH.nil
          go_simp
          (go_at_call 39; refine (cloneb_any XA text m xc _ ((Q1.out.below bd1).more bd1.size) (by rw [HM.out]; exact ht) HM.out hnl).mono ?_; rintro e w2 ⟨A2, c2, rfl, o2, b2⟩; rw [HM.out] at o2 ⊢; have O2 := Lib.hid o2; have B2 := Lib.hid (bd1.trans b2); have e1 := (b2.cell (p := ⟨gv, 1, none⟩) dlt).trans d1; have e2 := (b2.cell (p := ⟨gv, 2, none⟩) dlt).trans d2; have e4 := (b2.cell (p := ⟨gv, 4, none⟩) dlt).trans d4; clear o2 b2)
          go_wp2_with fail
          refine hK.out _ _ ?_ (fun hHeld => ?_)
          · exact ⟨e1, e2, e4⟩
          clear hK K
          try simp only [Act.put, List.setIfInBounds_toArray, List.set_cons_zero, List.set_cons_succ]
          refine takeD (i := 9) (oi := _) (v := ?vv9) (d := some 61) rfl (by kernel_rfl) (by kernel_rfl) (by kernel_rfl) (by kernel_rfl) (fun _ _ _ h => h) (Or.inl ⟨by kernel_rfl, ?_⟩) (by assumption) ?_
          rotate_left 1
          · intro W_ hSw; (try dsimp only at hSw); go_simp; (first | done | with_reducible rfl)
          try simp only [Act.put, List.setIfInBounds_toArray, List.set_cons_zero, List.set_cons_succ]
          refine wpAnyH_ready (rs := [10]) (by kernel_rfl) (by simp) ?_
          refine AllReadyH.cons (o := _) rfl (fun K hK => ?_) AllReadyH.nil
          go_simp
          refine hK.out _ _ ?_ (fun hHeld => ?_)
          · exact ⟨keep_alloc e1, keep_alloc e2, keep_alloc e4⟩
          clear hK K
          try simp only [Act.put]
          try simp only [List.setIfInBounds_toArray]
          try simp only [List.set_cons_succ]
          try simp only [List.set_cons_zero]
          have bal : Below w1.heap.size w1 (w2.alloc (.cells #[.int .u32 (tx : Int), .int .u8 (who : Int), .slice A2 m c2, .int .u8 (s : Int)] 38)) := bel_alloc B2.out _
          have JA := Lib.hid (J1.out.to bal)
          have hs256 : s < 256 := (Jp.step_le HSO.out).2.2
          refine wpAnyH_ready (rs := [11]) (by kernel_rfl) (by simp) ?_
          refine AllReadyH.cons (o := _) rfl (fun K hK => ?_) AllReadyH.nil
          (refine step_append_own_at rfl (.tmp 52) (.tmp 62) 25 rfl base 38 iJ _ 4 40 Try.underlying25 hifJ hj0 hj1 hj2 rfl (by decide) _ _ (jl.flatMap jbF) rfl JA.out.own ⟨w2.heap.size, 0, none⟩ 1 1 [.int .u32 (tx : Int), .int .u8 (who : Int), .slice A2 m c2, .int .u8 (s : Int)] rfl rfl (lit_news w2 _ [_, _, _, _] _ rfl) (jbF_one ⟨⟨tx, who, text, s⟩, A2, c2⟩ |> fun h => by intro u hu; simp only [List.mem_cons, List.not_mem_nil, or_false] at hu; rcases hu with rfl | rfl | rfl | rfl <;> rfl) (by unfold maxLen; omega) (by omega) (Nat.le_trans hb1 bal.size) ?_)
          intro A3 c3 w3 o3 g3 at3
          refine hK.out _ _ ?_ (fun hHeld => ?_)
          · refine ⟨g3.cell (keep_alloc e1) (fun e => ?_), g3.cell (keep_alloc e2) (fun e => ?_), g3.cell (keep_alloc e4) (fun e => ?_)⟩ <;> (have h1 := HOB.out gv e.symm; have h2 := HGV.out; omega)
          clear hK K
          try simp only [List.getElem_toArray, List.getElem_cons_succ, List.getElem_cons_zero]
          dsimp only [Act.put]
          try simp only [List.setIfInBounds_toArray]
          try simp only [List.set_cons_succ]
          try simp only [List.set_cons_zero]
          have hfin := JA.out.push ⟨⟨tx, who, text, s⟩, A2, c2⟩ (own_below (own_more (by have h := O2.out; rw [← HM.out] at h; exact h) (Nat.le_trans hb1 (by simp))) (bel_alloc (Below.refl _ _) _)) (fun p hp e => by have h1 := (JA.out.own.lt p.block e.symm).2; have h2 := (J1.out.own.lt p.block e.symm).2; have h3 := (own_at_s O2.out p hp).1; simp at h3; omega) ⟨HF.out.tx, HF.out.who, HF.out.u, hs256⟩ (by have h := o3; rw [← HM.out] at h; exact h) g3 at3
          obtain ⟨A4, c4, hv4, hJ4⟩ := hfin
          obtain ⟨rfl, rfl⟩ : A3 = A4 ∧ c3 = c4 := by simpa using hv4
          have J4 := Lib.hid hJ4
          have B4 : Hid (Below base w w3) := Lib.hid ((B1.out.trans (bal.mono hb1)).grown g3 (Nat.le_trans hb1 bal.size) (fun q hq => (JA.out.own.lt q hq).1))
          clear hv4 hJ4 o3 g3 at3 e1 e2 e4 bal bd1
          refine takeD (i := 12) (oi := _) (v := ?vv10) (d := some 6) rfl (by kernel_rfl) (by kernel_rfl) (by kernel_rfl) (by kernel_rfl) (fun _ _ _ h => h) (Or.inl ⟨by kernel_rfl, ?_⟩) (by assumption) ?_
          rotate_left 1
          · intro W_ hSw; (try dsimp only at hSw); go_simp; (first | done | with_reducible rfl)
          try simp only [Act.put, List.setIfInBounds_toArray, List.set_cons_zero, List.set_cons_succ]
          refine takeD (i := 13) (oi := _) (v := ?vv11) (d := some 7) rfl (by kernel_rfl) (by kernel_rfl) (by kernel_rfl) (by kernel_rfl) (fun _ _ _ h => h) (Or.inl ⟨by kernel_rfl, ?_⟩) (by assumption) ?_
          rotate_left 1
          · intro W_ hSw; (try dsimp only at hSw); go_simp; (first | done | with_reducible rfl)
          try simp only [Act.put, List.setIfInBounds_toArray, List.set_cons_zero, List.set_cons_succ]
          refine wpAnyH_done (by kernel_rfl) ?_ _
          go_wp2
          go_ret2
          exact ⟨B4.out, .inr ⟨_, A3, _, c3, _, HYES.out, rfl, by rw [jps, List.map_append]; rfl, J4.out⟩⟩
    · obtain ⟨k, rfl⟩ : ∃ k, n = k + 1 := ⟨n - 1, by omega⟩
      obtain ⟨g2, o2, y, rfl, hg2, hy, hyo, hy0, hy1, hy2, hy3⟩ := J1.out.jbs.at_ (k := k) (by rw [HLJ.out]; omega)
      have HLT : Hid (Jp.lastTx (jps jl) = y.p.tx) := Lib.hid (last_get HLJ.out hy)
      have hgr2 : g2 < w1.heap.size := hg2
      clear hy hyo
      by_cases hle : tx ≤ y.p.tx
      · cases so with
        | none =>
          simp only [Option.getD_none, Option.isSome_none] at hlook
          have HNO := Lib.hid (HP.out.trans (show _ = none by simp only; rw [HSO.out]))
          go_wp2
          go_ret2
          exact PutP.no HNO.out BX.out
        | some s =>
          simp only [Option.getD_some, Option.isSome_some] at hlook
          have HNO := Lib.hid (HP.out.trans (show _ = none by simp only; rw [HSO.out]; simp only; rw [if_pos (by rw [HLT.out]; omega)]))
          go_wp2
          go_ret2
          exact PutP.no HNO.out BX.out
      · cases so with
        | none =>
          simp only [Option.getD_none, Option.isSome_none] at hlook
          have HNO := Lib.hid (HP.out.trans (show _ = none by simp only; rw [HSO.out]))
          go_wp2
          go_ret2
          exact PutP.no HNO.out BX.out
        | some s =>
          simp only [Option.getD_some, Option.isSome_some] at hlook
          have HYES : Hid (Jp.put (jps jl) ⟨2, tx, who, yes, text⟩ = some (jps jl ++ [⟨tx, who, text, s⟩])) := Lib.hid (by rw [HP.out]; simp only; rw [HSO.out]; simp only; rw [if_neg (by rw [HLT.out]; omega)])
          go_upto_region 12 with fail
          have bd1 : Below w1.heap.size w1 w1.drew := (Below.refl _ _).drew
          refine wp_region_held_drew (S := (fun w' => w'.cell? ⟨gv, 1, none⟩ = some (.int .u32 (tx : Int)) ∧ w'.cell? ⟨gv, 2, none⟩ = some (.int .u8 (who : Int)) ∧ w'.cell? ⟨gv, 4, none⟩ = some (.slice XA m xc))) (by kernel_rfl) ?_ (fun hHeld => ?_)
          · exact ⟨d1, d2, d4⟩
          refine takeD (i := 0) (oi := _) (v := ?vv12) (d := some 52) rfl (by kernel_rfl) (by kernel_rfl) (by kernel_rfl) (by kernel_rfl) (fun _ _ _ h => h) (Or.inl ⟨by kernel_rfl, ?_⟩) (by assumption) ?_
          rotate_left 1
          · intro W_ hSw; (try dsimp only at hSw); go_simp; (first | done | with_reducible rfl)
          try simp only [Act.put, List.setIfInBounds_toArray, List.set_cons_zero, List.set_cons_succ]
          refine takeD (i := 1) (oi := _) (v := ?vv13) (d := some 53) rfl (by kernel_rfl) (by kernel_rfl) (by kernel_rfl) (by kernel_rfl) (fun _ _ _ h => h) (Or.inl ⟨by kernel_rfl, ?_⟩) (by assumption) ?_
          rotate_left 1
          · intro W_ hSw; (try dsimp only at hSw); go_simp; (first | done | with_reducible rfl)
          try simp only [Act.put, List.setIfInBounds_toArray, List.set_cons_zero, List.set_cons_succ]
          refine takeD (i := 2) (oi := _) (v := ?vv14) (d := some 54) rfl (by kernel_rfl) (by kernel_rfl) (by kernel_rfl) (by kernel_rfl) (fun _ _ _ h => h) (Or.inl ⟨by kernel_rfl, ?_⟩) (by assumption) ?_
          rotate_left 1
          · intro W_ hSw; (try dsimp only at hSw); go_simp; (first | done | with_reducible rfl)
          try simp only [Act.put, List.setIfInBounds_toArray, List.set_cons_zero, List.set_cons_succ]
          refine takeD (i := 3) (oi := _) (v := ?vv15) (d := some 55) rfl (by kernel_rfl) (by kernel_rfl) (by kernel_rfl) (by kernel_rfl) (fun _ _ _ h => h) (Or.inl ⟨by kernel_rfl, ?_⟩) (by assumption) ?_
          rotate_left 1
          · intro W_ hSw; (try dsimp only at hSw); go_simp; (first | done | with_reducible rfl)
          try simp only [Act.put, List.setIfInBounds_toArray, List.set_cons_zero, List.set_cons_succ]
          refine takeD (i := 4) (oi := _) (v := ?vv16) (d := some 56) rfl (by kernel_rfl) (by kernel_rfl) (by kernel_rfl) (by kernel_rfl) (fun _ _ _ h => h) (Or.inl ⟨by kernel_rfl, ?_⟩) (by assumption) ?_
          rotate_left 1
          · intro W_ hSw; (try dsimp only at hSw); go_simp; (first | done | with_reducible rfl)
          try simp only [Act.put, List.setIfInBounds_toArray, List.set_cons_zero, List.set_cons_succ]
          refine takeD (i := 5) (oi := _) (v := ?vv17) (d := some 57) rfl (by kernel_rfl) (by kernel_rfl) (by kernel_rfl) (by kernel_rfl) (fun _ _ _ h => h) (Or.inl ⟨by kernel_rfl, ?_⟩) (by assumption) ?_
          rotate_left 1
          · intro W_ hSw; (try dsimp only at hSw); go_simp; (first | done | with_reducible rfl)
          try simp only [Act.put, List.setIfInBounds_toArray, List.set_cons_zero, List.set_cons_succ]
          refine takeD (i := 6) (oi := _) (v := ?vv18) (d := some 58) rfl (by kernel_rfl) (by kernel_rfl) (by kernel_rfl) (by kernel_rfl) (fun _ _ _ h => h) (Or.inl ⟨by kernel_rfl, ?_⟩) (by assumption) ?_
          rotate_left 1
          · intro W_ hSw; (try dsimp only at hSw); go_simp; (first | done | with_reducible rfl)
          try simp only [Act.put, List.setIfInBounds_toArray, List.set_cons_zero, List.set_cons_succ]
          refine takeD (i := 8) (oi := _) (v := ?vv19) (d := some 60) rfl (by kernel_rfl) (by kernel_rfl) (by kernel_rfl) (by kernel_rfl) (fun _ _ _ h => h) (Or.inl ⟨by kernel_rfl, ?_⟩) (by assumption) ?_
          rotate_left 1
          · intro W_ hSw; (try dsimp only at hSw); go_simp; (first | done | with_reducible rfl)
          try simp only [Act.put, List.setIfInBounds_toArray, List.set_cons_zero, List.set_cons_succ]
          refine wpAnyH_ready (rs := [7]) (by kernel_rfl) (by simp) ?_
          refine AllReadyH.cons (o := _) rfl (fun K hK => ?_) AllReadyH.nil
          go_simp
          (go_at_call 39; refine (cloneb_any XA text m xc _ ((Q1.out.below bd1).more bd1.size) (by rw [HM.out]; exact ht) HM.out hnl).mono ?_; rintro e w2 ⟨A2, c2, rfl, o2, b2⟩; rw [HM.out] at o2 ⊢; have O2 := Lib.hid o2; have B2 := Lib.hid (bd1.trans b2); have e1 := (b2.cell (p := ⟨gv, 1, none⟩) dlt).trans d1; have e2 := (b2.cell (p := ⟨gv, 2, none⟩) dlt).trans d2; have e4 := (b2.cell (p := ⟨gv, 4, none⟩) dlt).trans d4; clear o2 b2)
          go_wp2_with fail
          refine hK.out _ _ ?_ (fun hHeld => ?_)
          · exact ⟨e1, e2, e4⟩
          clear hK K
          try simp only [Act.put, List.setIfInBounds_toArray, List.set_cons_zero, List.set_cons_succ]
          refine takeD (i := 9) (oi := _) (v := ?vv20) (d := some 61) rfl (by kernel_rfl) (by kernel_rfl) (by kernel_rfl) (by kernel_rfl) (fun _ _ _ h => h) (Or.inl ⟨by kernel_rfl, ?_⟩) (by assumption) ?_
          rotate_left 1
          · intro W_ hSw; (try dsimp only at hSw); go_simp; (first | done | with_reducible rfl)
          try simp only [Act.put, List.setIfInBounds_toArray, List.set_cons_zero, List.set_cons_succ]
          refine wpAnyH_ready (rs := [10]) (by kernel_rfl) (by simp) ?_
          refine AllReadyH.cons (o := _) rfl (fun K hK => ?_) AllReadyH.nil
          go_simp
          refine hK.out _ _ ?_ (fun hHeld => ?_)
          · exact ⟨keep_alloc e1, keep_alloc e2, keep_alloc e4⟩
          clear hK K
          try simp only [Act.put]
          try simp only [List.setIfInBounds_toArray]
          try simp only [List.set_cons_succ]
          try simp only [List.set_cons_zero]
          have bal : Below w1.heap.size w1 (w2.alloc (.cells #[.int .u32 (tx : Int), .int .u8 (who : Int), .slice A2 m c2, .int .u8 (s : Int)] 38)) := bel_alloc B2.out _
          have JA := Lib.hid (J1.out.to bal)
          have hs256 : s < 256 := (Jp.step_le HSO.out).2.2
          refine wpAnyH_ready (rs := [11]) (by kernel_rfl) (by simp) ?_
          refine AllReadyH.cons (o := _) rfl (fun K hK => ?_) AllReadyH.nil
          (refine step_append_own_at rfl (.tmp 52) (.tmp 62) 25 rfl base 38 iJ _ 4 40 Try.underlying25 hifJ hj0 hj1 hj2 rfl (by decide) _ _ (jl.flatMap jbF) rfl JA.out.own ⟨w2.heap.size, 0, none⟩ 1 1 [.int .u32 (tx : Int), .int .u8 (who : Int), .slice A2 m c2, .int .u8 (s : Int)] rfl rfl (lit_news w2 _ [_, _, _, _] _ rfl) (jbF_one ⟨⟨tx, who, text, s⟩, A2, c2⟩ |> fun h => by intro u hu; simp only [List.mem_cons, List.not_mem_nil, or_false] at hu; rcases hu with rfl | rfl | rfl | rfl <;> rfl) (by unfold maxLen; omega) (by omega) (Nat.le_trans hb1 bal.size) ?_)
          intro A3 c3 w3 o3 g3 at3
          refine hK.out _ _ ?_ (fun hHeld => ?_)
          · refine ⟨g3.cell (keep_alloc e1) (fun e => ?_), g3.cell (keep_alloc e2) (fun e => ?_), g3.cell (keep_alloc e4) (fun e => ?_)⟩ <;> (have h1 := HOB.out gv e.symm; have h2 := HGV.out; omega)
          clear hK K
          try simp only [List.getElem_toArray, List.getElem_cons_succ, List.getElem_cons_zero]
          dsimp only [Act.put]
          try simp only [List.setIfInBounds_toArray]
          try simp only [List.set_cons_succ]
          try simp only [List.set_cons_zero]
          have hfin := JA.out.push ⟨⟨tx, who, text, s⟩, A2, c2⟩ (own_below (own_more (by have h := O2.out; rw [← HM.out] at h; exact h) (Nat.le_trans hb1 (by simp))) (bel_alloc (Below.refl _ _) _)) (fun p hp e => by have h1 := (JA.out.own.lt p.block e.symm).2; have h2 := (J1.out.own.lt p.block e.symm).2; have h3 := (own_at_s O2.out p hp).1; simp at h3; omega) ⟨HF.out.tx, HF.out.who, HF.out.u, hs256⟩ (by have h := o3; rw [← HM.out] at h; exact h) g3 at3
          obtain ⟨A4, c4, hv4, hJ4⟩ := hfin
          obtain ⟨rfl, rfl⟩ : A3 = A4 ∧ c3 = c4 := by simpa using hv4
          have J4 := Lib.hid hJ4
          have B4 : Hid (Below base w w3) := Lib.hid ((B1.out.trans (bal.mono hb1)).grown g3 (Nat.le_trans hb1 bal.size) (fun q hq => (JA.out.own.lt q hq).1))
          clear hv4 hJ4 o3 g3 at3 e1 e2 e4 bal bd1
          refine takeD (i := 12) (oi := _) (v := ?vv21) (d := some 6) rfl (by kernel_rfl) (by kernel_rfl) (by kernel_rfl) (by kernel_rfl) (fun _ _ _ h => h) (Or.inl ⟨by kernel_rfl, ?_⟩) (by assumption) ?_
          rotate_left 1
          · intro W_ hSw; (try dsimp only at hSw); go_simp; (first | done | with_reducible rfl)
          try simp only [Act.put, List.setIfInBounds_toArray, List.set_cons_zero, List.set_cons_succ]
          refine takeD (i := 13) (oi := _) (v := ?vv22) (d := some 7) rfl (by kernel_rfl) (by kernel_rfl) (by kernel_rfl) (by kernel_rfl) (fun _ _ _ h => h) (Or.inl ⟨by kernel_rfl, ?_⟩) (by assumption) ?_
          rotate_left 1
          · intro W_ hSw; (try dsimp only at hSw); go_simp; (first | done | with_reducible rfl)
          try simp only [Act.put, List.setIfInBounds_toArray, List.set_cons_zero, List.set_cons_succ]
          refine wpAnyH_done (by kernel_rfl) ?_ _
          go_wp2
          go_ret2
          exact ⟨B4.out, .inr ⟨_, A3, _, c3, _, HYES.out, rfl, by rw [jps, List.map_append]; rfl, J4.out⟩⟩
  · have HP := Lib.hid (put_other (l := jps jl) (x := ⟨what, tx, who, yes, text⟩) HR.out hw1 hw2)
    have hw1I : ((what : Int) == 1) = false := beq_eq_false_iff_ne.2 (by omega)
    have hw2I : ((what : Int) == 2) = false := beq_eq_false_iff_ne.2 (by omega)
    go_wp2_with fail
    refine (jfind_any A jl c n tx w1 HLJ.out J1.out.jbs (by omega) HS.out).mono ?_
    rintro e w2 ⟨rfl, b2⟩
    have J2 := Lib.hid (J1.out.to b2)
    have M2 := Lib.hid (M1.out.to b2)
    have R2 := Lib.hid (R1.out.to b2)
    have B2 := Lib.hid (B1.out.trans (b2.mono hb1))
    have hb2 : base ≤ w2.heap.size := Nat.le_trans hb1 b2.size
    obtain ⟨fo, hfo⟩ : ∃ fo, Jp.find (jps jl) tx = fo := ⟨_, rfl⟩
    have HFO := Lib.hid hfo
    rw [hfo]
    clear b2 J1 M1 R1 B1 hfo d0 d1 d2 d3 d4 dz0 dz1 dz2 dz3 dz4 dlt dlu
    have BX := B2
    cases fo with
    | none =>
      simp only [Option.getD_none, Option.isSome_none]
      have HNO := Lib.hid (HP.out.trans (show _ = none by rw [HFO.out]))
      go_wp2
      go_ret2
      exact PutP.no HNO.out BX.out
    | some i =>
      simp only [Option.getD_some, Option.isSome_some]
      obtain ⟨yp, hyp, -, -⟩ := Jp.find_some HFO.out
      obtain ⟨y, hy, rfl⟩ : ∃ y, jl[i]? = some y ∧ y.p = yp := by
        rw [jps, List.getElem?_map] at hyp
        cases hj : jl[i]? with
        | none => rw [hj] at hyp; cases hyp
        | some y => rw [hj] at hyp; exact ⟨y, rfl, by simpa using hyp⟩
      have hin : i < n := by rw [← HLJ.out]; exact (List.getElem?_eq_some_iff.1 hy).1
      obtain ⟨g2, rfl, hgb, hgs⟩ : ∃ g2, A = some ⟨g2, 0, none⟩ ∧ base ≤ g2 ∧ g2 < w2.heap.size := by
        rcases J2.out.own.2 with ⟨_, h0⟩ | ⟨g, cap, cur, hv, h1, hh, _⟩
        · omega
        · exact ⟨g, by simpa using (show A = some ⟨g, 0, none⟩ ∧ _ by simpa using hv).1, h1, (Array.getElem?_eq_some_iff.1 hh).1⟩
      obtain ⟨g3, o3, y', hA3, hg3, hy', hyo, hy0, hy1, hy2, hy3⟩ := J2.out.jbs.at_ (k := i) (by rw [HLJ.out]; exact hin)
      obtain ⟨rfl, rfl⟩ : g2 = g3 ∧ 0 = o3 := by simpa using hA3
      rw [hy] at hy'
      obtain rfl := Option.some.inj hy'
      rw [Nat.zero_add] at hy0 hy1 hy2 hy3
      have hyz : w2.frozen? ⟨g2, i * 4 + 3, none⟩ = false := by
        rcases J2.out.own.2 with ⟨h1, _⟩ | ⟨g', cap, cur, hv, _, hh, _⟩
        · cases h1
        · obtain ⟨rfl, _⟩ : g2 = g' ∧ c = cap := by simpa using hv
          simp [World.frozen?, hh]
      have hinI : (i : Int) < (n : Int) := by omega
      have HST : Hid (y.p.st < 256) := Lib.hid (J2.out.fit y (List.mem_of_getElem? hy)).st
      obtain ⟨so, hso⟩ : ∃ so, Jp.step what yes y.p.st = so := ⟨_, rfl⟩
      have hlook : ∀ W, StepMap W gm (fun _ => true) → (Instr.lookup 54 (.map (some gm)) (.agg #[.int .u8 (what : Int), .bool yes, .int .u8 (y.p.st : Int)]) true).run Try.prog W = .ok (.tuple #[.int .u8 (((Jp.step what yes y.p.st).getD 0 : Nat) : Int), .bool (Jp.step what yes y.p.st).isSome]) W := fun W hW => run_look_step what yes y.p.st HWS.out HST.out hW
      rw [hso] at hlook
      have HLK := Lib.hid hlook
      have HSO := Lib.hid hso
      have HY := Lib.hid hy
      have HYP := Lib.hid hyp
      have dlt : gv < (w2).heap.size := R2.out.lt
      have dlu : gv < (w2).heap.size + 1 := Nat.lt_succ_of_lt R2.out.lt
      have d0 : (w2).cell? ⟨gv, 0, none⟩ = some (.int .u8 (what : Int)) := R2.out.cells 0
      have dz0 : (w2).frozen? ⟨gv, 0, none⟩ = false := R2.out.frozen 0
      have d1 : (w2).cell? ⟨gv, 1, none⟩ = some (.int .u32 (tx : Int)) := R2.out.cells 1
      have dz1 : (w2).frozen? ⟨gv, 1, none⟩ = false := R2.out.frozen 1
      have d2 : (w2).cell? ⟨gv, 2, none⟩ = some (.int .u8 (who : Int)) := R2.out.cells 2
      have dz2 : (w2).frozen? ⟨gv, 2, none⟩ = false := R2.out.frozen 2
      have d3 : (w2).cell? ⟨gv, 3, none⟩ = some (.bool yes) := R2.out.cells 3
      have dz3 : (w2).frozen? ⟨gv, 3, none⟩ = false := R2.out.frozen 3
      have d4 : (w2).cell? ⟨gv, 4, none⟩ = some (.slice XA m xc) := R2.out.cells 4
      have dz4 : (w2).frozen? ⟨gv, 4, none⟩ = false := R2.out.frozen 4
      clear hso hy hyp hyo hA3 hlook
      cases so with
      | none =>
        simp only [Option.getD_none, Option.isSome_none] at HLK
        have HNO := Lib.hid (HP.out.trans (show _ = none by rw [HFO.out]; simp only; rw [HYP.out]; simp only; rw [HSO.out]))
        go_upto_region 16 with fail
        refine wp_region_held_drew (S := (fun w' => w'.cell? ⟨gv, 0, none⟩ = some (.int .u8 (what : Int)) ∧ w'.cell? ⟨gv, 3, none⟩ = some (.bool yes) ∧ w'.cell? ⟨g2, i * 4 + 3, none⟩ = some (.int .u8 (y.p.st : Int)) ∧ StepMap w' gm (fun _ => true))) (by kernel_rfl) ?_ (fun hHeld => ?_)
        · exact ⟨d0, d3, hy3, M2.out.to (Below.refl _ _).drew⟩
        refine takeD (i := 0) (oi := _) (v := ?vv23) (d := some 74) rfl (by kernel_rfl) (by kernel_rfl) (by kernel_rfl) (by kernel_rfl) (fun _ _ _ h => h) (Or.inl ⟨by kernel_rfl, ?_⟩) (by assumption) ?_
        rotate_left 1
        · intro W_ hSw; (try dsimp only at hSw); go_simp; (first | done | with_reducible rfl)
        try simp only [Act.put, List.setIfInBounds_toArray, List.set_cons_zero, List.set_cons_succ]
        refine takeD (i := 1) (oi := _) (v := ?vv24) (d := some 75) rfl (by kernel_rfl) (by kernel_rfl) (by kernel_rfl) (by kernel_rfl) (fun _ _ _ h => h) (Or.inl ⟨by kernel_rfl, ?_⟩) (by assumption) ?_
        rotate_left 1
        · intro W_ hSw; (try dsimp only at hSw); go_simp; (first | done | with_reducible rfl)
        try simp only [Act.put, List.setIfInBounds_toArray, List.set_cons_zero, List.set_cons_succ]
        refine takeD (i := 2) (oi := _) (v := ?vv25) (d := some 76) rfl (by kernel_rfl) (by kernel_rfl) (by kernel_rfl) (by kernel_rfl) (fun _ _ _ h => h) (Or.inl ⟨by kernel_rfl, ?_⟩) (by assumption) ?_
        rotate_left 1
        · intro W_ hSw; (try dsimp only at hSw); go_simp; (first | done | with_reducible rfl)
        try simp only [Act.put, List.setIfInBounds_toArray, List.set_cons_zero, List.set_cons_succ]
        refine takeD (i := 3) (oi := _) (v := ?vv26) (d := some 77) rfl (by kernel_rfl) (by kernel_rfl) (by kernel_rfl) (by kernel_rfl) (fun _ _ _ h => h) (Or.inl ⟨by kernel_rfl, ?_⟩) (by assumption) ?_
        rotate_left 1
        · intro W_ hSw; (try dsimp only at hSw); go_simp; (first | done | with_reducible rfl)
        try simp only [Act.put, List.setIfInBounds_toArray, List.set_cons_zero, List.set_cons_succ]
        refine takeD (i := 4) (oi := _) (v := ?vv27) (d := some 78) rfl (by kernel_rfl) (by kernel_rfl) (by kernel_rfl) (by kernel_rfl) (fun _ _ _ h => h) (Or.inl ⟨by kernel_rfl, ?_⟩) (by assumption) ?_
        rotate_left 1
        · intro W_ hSw; (try dsimp only at hSw); go_simp; (first | done | with_reducible rfl)
        try simp only [Act.put, List.setIfInBounds_toArray, List.set_cons_zero, List.set_cons_succ]
        refine takeD (i := 5) (oi := _) (v := ?vv28) (d := some 79) rfl (by kernel_rfl) (by kernel_rfl) (by kernel_rfl) (by kernel_rfl) (fun _ _ _ h => h) (Or.inl ⟨by kernel_rfl, ?_⟩) (by assumption) ?_
        rotate_left 1
        · intro W_ hSw; (try dsimp only at hSw); go_simp; (first | done | with_reducible rfl)
        try simp only [Act.put, List.setIfInBounds_toArray, List.set_cons_zero, List.set_cons_succ]
        refine takeD (i := 6) (oi := _) (v := ?vv29) (d := some 80) rfl (by kernel_rfl) (by kernel_rfl) (by kernel_rfl) (by kernel_rfl) (fun _ _ _ h => h) (Or.inl ⟨by kernel_rfl, ?_⟩) (by assumption) ?_
        rotate_left 1
        · intro W_ hSw; (try dsimp only at hSw); go_simp; (first | done | with_reducible rfl)
        try simp only [Act.put, List.setIfInBounds_toArray, List.set_cons_zero, List.set_cons_succ]
        refine takeD (i := 7) (oi := _) (v := ?vv30) (d := some 81) rfl (by kernel_rfl) (by kernel_rfl) (by kernel_rfl) (by kernel_rfl) (fun _ _ _ h => h) (Or.inl ⟨by kernel_rfl, ?_⟩) (by assumption) ?_
        rotate_left 1
        · intro W_ hSw; (try dsimp only at hSw); go_simp; (first | done | with_reducible rfl)
        try simp only [Act.put, List.setIfInBounds_toArray, List.set_cons_zero, List.set_cons_succ]
        refine takeD (i := 8) (oi := _) (v := ?vv31) (d := some 82) rfl (by kernel_rfl) (by kernel_rfl) (by kernel_rfl) (by kernel_rfl) (fun _ _ _ h => h) (Or.inl ⟨by kernel_rfl, ?_⟩) (by assumption) ?_
        rotate_left 1
        · intro W_ hSw; (try dsimp only at hSw); go_simp; (first | done | with_reducible rfl)
        try simp only [Act.put, List.setIfInBounds_toArray, List.set_cons_zero, List.set_cons_succ]
        refine takeD (i := 9) (oi := _) (v := ?vv32) (d := some 83) rfl (by kernel_rfl) (by kernel_rfl) (by kernel_rfl) (by kernel_rfl) (fun _ _ _ h => h) (Or.inl ⟨by kernel_rfl, ?_⟩) (by assumption) ?_
        rotate_left 1
        · intro W_ hSw; (try dsimp only at hSw); go_simp; (first | done | with_reducible rfl)
        try simp only [Act.put, List.setIfInBounds_toArray, List.set_cons_zero, List.set_cons_succ]
        refine takeD (i := 10) (oi := _) (v := ?vv33) (d := some 84) rfl (by kernel_rfl) (by kernel_rfl) (by kernel_rfl) (by kernel_rfl) (fun _ _ _ h => h) (Or.inl ⟨by kernel_rfl, ?_⟩) (by assumption) ?_
        rotate_left 1
        · intro W_ hSw; (try dsimp only at hSw); go_simp; (first | done | with_reducible rfl)
        try simp only [Act.put, List.setIfInBounds_toArray, List.set_cons_zero, List.set_cons_succ]
        refine takeD (i := 11) (oi := _) (v := _) (d := some 85) rfl (by kernel_rfl) (by kernel_rfl) (by kernel_rfl) (by kernel_rfl) (fun _ _ _ h => h) (yieldsIf_look (by kernel_rfl) 54 (.tmp 74) (.tmp 84) rfl (.map (some gm)) (.agg #[.int .u8 (what : Int), .bool yes, .int .u8 (y.p.st : Int)]) _ rfl rfl (fun W hW => HLK.out W hW.2.2.2)) (by assumption) ?_
        try simp only [Act.put, List.setIfInBounds_toArray, List.set_cons_zero, List.set_cons_succ]
        refine takeD (i := 12) (oi := _) (v := ?vv34) (d := some 73) rfl (by kernel_rfl) (by kernel_rfl) (by kernel_rfl) (by kernel_rfl) (fun _ _ _ h => h) (Or.inl ⟨by kernel_rfl, ?_⟩) (by assumption) ?_
        rotate_left 1
        · intro W_ hSw; (try dsimp only at hSw); go_simp; (first | done | with_reducible rfl)
        try simp only [Act.put, List.setIfInBounds_toArray, List.set_cons_zero, List.set_cons_succ]
        refine takeD (i := 13) (oi := _) (v := ?vv35) (d := some 86) rfl (by kernel_rfl) (by kernel_rfl) (by kernel_rfl) (by kernel_rfl) (fun _ _ _ h => h) (Or.inl ⟨by kernel_rfl, ?_⟩) (by assumption) ?_
        rotate_left 1
        · intro W_ hSw; (try dsimp only at hSw); go_simp; (first | done | with_reducible rfl)
        try simp only [Act.put, List.setIfInBounds_toArray, List.set_cons_zero, List.set_cons_succ]
        refine takeD (i := 14) (oi := _) (v := ?vv36) (d := some 87) rfl (by kernel_rfl) (by kernel_rfl) (by kernel_rfl) (by kernel_rfl) (fun _ _ _ h => h) (Or.inl ⟨by kernel_rfl, ?_⟩) (by assumption) ?_
        rotate_left 1
        · intro W_ hSw; (try dsimp only at hSw); go_simp; (first | done | with_reducible rfl)
        try simp only [Act.put, List.setIfInBounds_toArray, List.set_cons_zero, List.set_cons_succ]
        refine takeD (i := 15) (oi := _) (v := ?vv37) (d := some 13) rfl (by kernel_rfl) (by kernel_rfl) (by kernel_rfl) (by kernel_rfl) (fun _ _ _ h => h) (Or.inl ⟨by kernel_rfl, ?_⟩) (by assumption) ?_
        rotate_left 1
        · intro W_ hSw; (try dsimp only at hSw); go_simp; (first | done | with_reducible rfl)
        try simp only [Act.put, List.setIfInBounds_toArray, List.set_cons_zero, List.set_cons_succ]
        refine takeD (i := 16) (oi := _) (v := ?vv38) (d := some 12) rfl (by kernel_rfl) (by kernel_rfl) (by kernel_rfl) (by kernel_rfl) (fun _ _ _ h => h) (Or.inl ⟨by kernel_rfl, ?_⟩) (by assumption) ?_
        rotate_left 1
        · intro W_ hSw; (try dsimp only at hSw); go_simp; (first | done | with_reducible rfl)
        try simp only [Act.put, List.setIfInBounds_toArray, List.set_cons_zero, List.set_cons_succ]
        refine wpAnyH_done (by kernel_rfl) ?_ _
        have BX := Lib.hid (B2.out.trans ((Below.refl w2.heap.size w2).drew.mono hb2))
        have hyz' : w2.drew.frozen? ⟨g2, i * 4 + 3, none⟩ = false := hyz
        have hy3' : w2.drew.cell? ⟨g2, i * 4 + 3, none⟩ = some (.int .u8 (y.p.st : Int)) := hy3
        go_wp2
        go_ret2
        exact PutP.no HNO.out BX.out
      | some s =>
        simp only [Option.getD_some, Option.isSome_some] at HLK
        have HYES := Lib.hid (HP.out.trans (show _ = some ((jps jl).set i ⟨y.p.tx, y.p.who, y.p.text, s⟩) by rw [HFO.out]; simp only; rw [HYP.out]; simp only; rw [HSO.out]))
        go_upto_region 16 with fail
        refine wp_region_held_drew (S := (fun w' => w'.cell? ⟨gv, 0, none⟩ = some (.int .u8 (what : Int)) ∧ w'.cell? ⟨gv, 3, none⟩ = some (.bool yes) ∧ w'.cell? ⟨g2, i * 4 + 3, none⟩ = some (.int .u8 (y.p.st : Int)) ∧ StepMap w' gm (fun _ => true))) (by kernel_rfl) ?_ (fun hHeld => ?_)
        · exact ⟨d0, d3, hy3, M2.out.to (Below.refl _ _).drew⟩
        refine takeD (i := 0) (oi := _) (v := ?vv39) (d := some 74) rfl (by kernel_rfl) (by kernel_rfl) (by kernel_rfl) (by kernel_rfl) (fun _ _ _ h => h) (Or.inl ⟨by kernel_rfl, ?_⟩) (by assumption) ?_
        rotate_left 1
        · intro W_ hSw; (try dsimp only at hSw); go_simp; (first | done | with_reducible rfl)
        try simp only [Act.put, List.setIfInBounds_toArray, List.set_cons_zero, List.set_cons_succ]
        refine takeD (i := 1) (oi := _) (v := ?vv40) (d := some 75) rfl (by kernel_rfl) (by kernel_rfl) (by kernel_rfl) (by kernel_rfl) (fun _ _ _ h => h) (Or.inl ⟨by kernel_rfl, ?_⟩) (by assumption) ?_
        rotate_left 1
        · intro W_ hSw; (try dsimp only at hSw); go_simp; (first | done | with_reducible rfl)
        try simp only [Act.put, List.setIfInBounds_toArray, List.set_cons_zero, List.set_cons_succ]
        refine takeD (i := 2) (oi := _) (v := ?vv41) (d := some 76) rfl (by kernel_rfl) (by kernel_rfl) (by kernel_rfl) (by kernel_rfl) (fun _ _ _ h => h) (Or.inl ⟨by kernel_rfl, ?_⟩) (by assumption) ?_
        rotate_left 1
        · intro W_ hSw; (try dsimp only at hSw); go_simp; (first | done | with_reducible rfl)
        try simp only [Act.put, List.setIfInBounds_toArray, List.set_cons_zero, List.set_cons_succ]
        refine takeD (i := 3) (oi := _) (v := ?vv42) (d := some 77) rfl (by kernel_rfl) (by kernel_rfl) (by kernel_rfl) (by kernel_rfl) (fun _ _ _ h => h) (Or.inl ⟨by kernel_rfl, ?_⟩) (by assumption) ?_
        rotate_left 1
        · intro W_ hSw; (try dsimp only at hSw); go_simp; (first | done | with_reducible rfl)
        try simp only [Act.put, List.setIfInBounds_toArray, List.set_cons_zero, List.set_cons_succ]
        refine takeD (i := 4) (oi := _) (v := ?vv43) (d := some 78) rfl (by kernel_rfl) (by kernel_rfl) (by kernel_rfl) (by kernel_rfl) (fun _ _ _ h => h) (Or.inl ⟨by kernel_rfl, ?_⟩) (by assumption) ?_
        rotate_left 1
        · intro W_ hSw; (try dsimp only at hSw); go_simp; (first | done | with_reducible rfl)
        try simp only [Act.put, List.setIfInBounds_toArray, List.set_cons_zero, List.set_cons_succ]
        refine takeD (i := 5) (oi := _) (v := ?vv44) (d := some 79) rfl (by kernel_rfl) (by kernel_rfl) (by kernel_rfl) (by kernel_rfl) (fun _ _ _ h => h) (Or.inl ⟨by kernel_rfl, ?_⟩) (by assumption) ?_
        rotate_left 1
        · intro W_ hSw; (try dsimp only at hSw); go_simp; (first | done | with_reducible rfl)
        try simp only [Act.put, List.setIfInBounds_toArray, List.set_cons_zero, List.set_cons_succ]
        refine takeD (i := 6) (oi := _) (v := ?vv45) (d := some 80) rfl (by kernel_rfl) (by kernel_rfl) (by kernel_rfl) (by kernel_rfl) (fun _ _ _ h => h) (Or.inl ⟨by kernel_rfl, ?_⟩) (by assumption) ?_
        rotate_left 1
        · intro W_ hSw; (try dsimp only at hSw); go_simp; (first | done | with_reducible rfl)
        try simp only [Act.put, List.setIfInBounds_toArray, List.set_cons_zero, List.set_cons_succ]
        refine takeD (i := 7) (oi := _) (v := ?vv46) (d := some 81) rfl (by kernel_rfl) (by kernel_rfl) (by kernel_rfl) (by kernel_rfl) (fun _ _ _ h => h) (Or.inl ⟨by kernel_rfl, ?_⟩) (by assumption) ?_
        rotate_left 1
        · intro W_ hSw; (try dsimp only at hSw); go_simp; (first | done | with_reducible rfl)
        try simp only [Act.put, List.setIfInBounds_toArray, List.set_cons_zero, List.set_cons_succ]
        refine takeD (i := 8) (oi := _) (v := ?vv47) (d := some 82) rfl (by kernel_rfl) (by kernel_rfl) (by kernel_rfl) (by kernel_rfl) (fun _ _ _ h => h) (Or.inl ⟨by kernel_rfl, ?_⟩) (by assumption) ?_
        rotate_left 1
        · intro W_ hSw; (try dsimp only at hSw); go_simp; (first | done | with_reducible rfl)
        try simp only [Act.put, List.setIfInBounds_toArray, List.set_cons_zero, List.set_cons_succ]
        refine takeD (i := 9) (oi := _) (v := ?vv48) (d := some 83) rfl (by kernel_rfl) (by kernel_rfl) (by kernel_rfl) (by kernel_rfl) (fun _ _ _ h => h) (Or.inl ⟨by kernel_rfl, ?_⟩) (by assumption) ?_
        rotate_left 1
        · intro W_ hSw; (try dsimp only at hSw); go_simp; (first | done | with_reducible rfl)
        try simp only [Act.put, List.setIfInBounds_toArray, List.set_cons_zero, List.set_cons_succ]
        refine takeD (i := 10) (oi := _) (v := ?vv49) (d := some 84) rfl (by kernel_rfl) (by kernel_rfl) (by kernel_rfl) (by kernel_rfl) (fun _ _ _ h => h) (Or.inl ⟨by kernel_rfl, ?_⟩) (by assumption) ?_
        rotate_left 1
        · intro W_ hSw; (try dsimp only at hSw); go_simp; (first | done | with_reducible rfl)
        try simp only [Act.put, List.setIfInBounds_toArray, List.set_cons_zero, List.set_cons_succ]
        refine takeD (i := 11) (oi := _) (v := _) (d := some 85) rfl (by kernel_rfl) (by kernel_rfl) (by kernel_rfl) (by kernel_rfl) (fun _ _ _ h => h) (yieldsIf_look (by kernel_rfl) 54 (.tmp 74) (.tmp 84) rfl (.map (some gm)) (.agg #[.int .u8 (what : Int), .bool yes, .int .u8 (y.p.st : Int)]) _ rfl rfl (fun W hW => HLK.out W hW.2.2.2)) (by assumption) ?_
        try simp only [Act.put, List.setIfInBounds_toArray, List.set_cons_zero, List.set_cons_succ]
        refine takeD (i := 12) (oi := _) (v := ?vv50) (d := some 73) rfl (by kernel_rfl) (by kernel_rfl) (by kernel_rfl) (by kernel_rfl) (fun _ _ _ h => h) (Or.inl ⟨by kernel_rfl, ?_⟩) (by assumption) ?_
        rotate_left 1
        · intro W_ hSw; (try dsimp only at hSw); go_simp; (first | done | with_reducible rfl)
        try simp only [Act.put, List.setIfInBounds_toArray, List.set_cons_zero, List.set_cons_succ]
        refine takeD (i := 13) (oi := _) (v := ?vv51) (d := some 86) rfl (by kernel_rfl) (by kernel_rfl) (by kernel_rfl) (by kernel_rfl) (fun _ _ _ h => h) (Or.inl ⟨by kernel_rfl, ?_⟩) (by assumption) ?_
        rotate_left 1
        · intro W_ hSw; (try dsimp only at hSw); go_simp; (first | done | with_reducible rfl)
        try simp only [Act.put, List.setIfInBounds_toArray, List.set_cons_zero, List.set_cons_succ]
        refine takeD (i := 14) (oi := _) (v := ?vv52) (d := some 87) rfl (by kernel_rfl) (by kernel_rfl) (by kernel_rfl) (by kernel_rfl) (fun _ _ _ h => h) (Or.inl ⟨by kernel_rfl, ?_⟩) (by assumption) ?_
        rotate_left 1
        · intro W_ hSw; (try dsimp only at hSw); go_simp; (first | done | with_reducible rfl)
        try simp only [Act.put, List.setIfInBounds_toArray, List.set_cons_zero, List.set_cons_succ]
        refine takeD (i := 15) (oi := _) (v := ?vv53) (d := some 13) rfl (by kernel_rfl) (by kernel_rfl) (by kernel_rfl) (by kernel_rfl) (fun _ _ _ h => h) (Or.inl ⟨by kernel_rfl, ?_⟩) (by assumption) ?_
        rotate_left 1
        · intro W_ hSw; (try dsimp only at hSw); go_simp; (first | done | with_reducible rfl)
        try simp only [Act.put, List.setIfInBounds_toArray, List.set_cons_zero, List.set_cons_succ]
        refine takeD (i := 16) (oi := _) (v := ?vv54) (d := some 12) rfl (by kernel_rfl) (by kernel_rfl) (by kernel_rfl) (by kernel_rfl) (fun _ _ _ h => h) (Or.inl ⟨by kernel_rfl, ?_⟩) (by assumption) ?_
        rotate_left 1
        · intro W_ hSw; (try dsimp only at hSw); go_simp; (first | done | with_reducible rfl)
        try simp only [Act.put, List.setIfInBounds_toArray, List.set_cons_zero, List.set_cons_succ]
        refine wpAnyH_done (by kernel_rfl) ?_ _
        have BX := Lib.hid (B2.out.trans ((Below.refl w2.heap.size w2).drew.mono hb2))
        have hyz' : w2.drew.frozen? ⟨g2, i * 4 + 3, none⟩ = false := hyz
        have hy3' : w2.drew.cell? ⟨g2, i * 4 + 3, none⟩ = some (.int .u8 (y.p.st : Int)) := hy3
        have hs256 : s < 256 := (Jp.step_le HSO.out).2.2
        have J4 := Lib.hid (((J2.out.to (Below.refl _ _).drew)).set (s := s) HY.out hs256)
        have B4 : Hid (Below base w (w2.drew.setCell ⟨g2, i * 4 + 3, none⟩ (.int .u8 (s : Int)))) := Lib.hid (BX.out.setCell hgb _)
        go_wp2
        go_ret2
        exact ⟨B4.out, .inr ⟨_, _, n, c, _, HYES.out, rfl, jps_set HY.out, J4.out⟩⟩
end Go.Proofs.Ytegmeodmjaijnaa
