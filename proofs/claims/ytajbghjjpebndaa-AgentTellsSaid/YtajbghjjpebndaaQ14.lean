/- The walks of the reference of layer 19: Own, Words. The walk of the reference of layer 19: Words. The walk of stage.Same: are two stages the same? -/
import Derived.Test.YtajbghjjpebndaaQ13
import Derived.Test.YtajbghjjpebndaaQ08
import Derived.Test.YtajbghjjpebndaaQ07
import Derived.Test.YtajbghjjpebndaaQ12
import Derived.Stop.BytesEq
import Derived.Deep.RegionHeld3
namespace Go.Proofs.Ytajbghjjpebndaa
set_option maxRecDepth 100000
open Go.RowKit
set_option linter.unusedVariables false
attribute [local go_sem] Later.cell Later.frozen setCell_twice
theorem made_w (n : Nat) : (madeCells (Value.int .u16 0).cells n).toList = (List.replicate n 0).map u16w := by
  have := made_vals .u16 n
  rw [vals] at this
  exact this
def ownK (a n : Nat) (ws : List Nat) (k : Nat) : List Nat := a :: n :: fillD 0 ws 14 k
theorem ownK_set {a n k x : Nat} {ws : List Nat} (hk : k < 14) (hx : ws[k]? = some x) : (ownK a n ws k).set (2 + k) x = ownK a n ws (k + 1) := by
  unfold ownK
  rw [Nat.add_comm, List.set_cons_succ, List.set_cons_succ, fillD_step hk hx]
theorem ownK_zero (a n : Nat) (ws : List Nat) : ownK a n ws 0 = ((List.replicate 16 0).set 0 a).set 1 n := by
  unfold ownK; rw [fillD_zero]; rfl
theorem ownK_all {a : Int} {ws : List Nat} (h : Bk.fits a ws.length = true) : ownK a.toNat ws.length ws ws.length = Stg.itself a ws := by
  rw [Stg.itself_yes h]
  unfold ownK fillD
  rw [List.take_length]
  rfl
set_option maxRecDepth 100000 in
set_option maxHeartbeats 400000 in
theorem rown_any (a : Int) (ws : List Nat) (A : Option Addr) (c n : Nat) (w : World) (hn : ws.length = n) (sq : Sq u16w w w.heap.size A ws) (hu : ∀ x ∈ ws, x < 65536) (lo : -9223372036854775808 ≤ a) (hi : a ≤ 9223372036854775807) (hnc : ws.length ≤ 9223372036854775807) :
    Calls Try.prog 76 #[.agg #[.int .i64 a, .slice A n c]] w (Makes u16w 24 w (Stg.itself a ws)) := by
  obtain ⟨i0, hif, hz0, hz1, hz2⟩ := info_parts info_w16
  subst hn
  have hsq := Lib.hid (fun W (h : Below w.heap.size w W) => sq.below h)
  have HI := Lib.hid (Stg.itself_length a ws)
  cases hf : Bk.fits a ws.length
  · have kf := Lib.hid (fun W => rfits_any a ws.length c A false W lo hi hnc hf)
    have HN := Lib.hid (show Stg.itself a ws = List.replicate 16 0 from Stg.itself_no hf)
    clear hf sq
    go_enter Try.func76, Try.ntmps76
    go_wp2_with (at_make; refine wpList_make_full _ rfl _ _ 22 rfl w.heap.size 24 i0 (.int .u16 0) 1 Try.underlying22 hif hz0 hz1 _ _ _ _ 16 rfl rfl rfl rfl (by rw [hz2]; decide) (by decide) (by simp) ?_; intro w2 o2 hg2; have hb2 : Below w.heap.size w w2 := (bel_alloc (Below.refl _ _) _).grown hg2 (by simp) (by simp); have q0 : w2.cell? ⟨w.heap.size, 0, none⟩ = some (.int .i64 a) := hg2.cell (by simp) (by simp); have q1 : w2.cell? ⟨w.heap.size, 1, none⟩ = some (.slice A ws.length c) := hg2.cell (by simp) (by simp); have o2' : w2.ownsRow w.heap.size 24 1 (.slice (some ⟨w.heap.size + 1, 0, none⟩) 16 16) 16 ((List.replicate 16 0).map u16w) := (by rw [← made_w]; simpa using o2); have O2 := Lib.hid o2'; clear hg2 o2 o2')
    with_reducible refine (kf.out _).mono ?_
    rintro e_ w3 ⟨rfl, hb3⟩
    have o3 := own_below O2.out hb3
    have hbw3 : Below w.heap.size w w3 := hb2.trans (hb3.mono hb2.size)
    clear hb3 hb2 q0 q1
    go_wp2
    go_ret
    rw [HN.out]
    exact Makes.of_own (by simp) o3 hbw3
  · have kf := Lib.hid (fun W => rfits_any a ws.length c A true W lo hi hnc hf)
    have hfi := Bk.fits_iff.1 hf
    have HN := Lib.hid (ownK_all hf)
    have ha0 : 0 ≤ a := hfi.2.1
    have ha1 : a < 64 := hfi.2.2.1
    have hn14 : ws.length ≤ 14 := hfi.1
    obtain ⟨m, hm⟩ : ∃ m : Nat, a = (m : Int) := ⟨a.toNat, by omega⟩
    subst hm
    have e1 : IntKind.u16.wrap (m : Int) = (m : Int) := by rw [wrap_u16]; omega
    have e2 : IntKind.u16.wrap (ws.length : Int) = (ws.length : Int) := by rw [wrap_u16]; omega
    rw [Int.toNat_natCast] at HN
    clear hf hfi
    go_enter Try.func76, Try.ntmps76
    go_wp2_with (at_make; refine wpList_make_full _ rfl _ _ 22 rfl (w.heap.size + 1) 24 i0 (.int .u16 0) 1 Try.underlying22 hif hz0 hz1 _ _ _ _ 16 rfl rfl rfl rfl (by rw [hz2]; decide) (by decide) (by simp) ?_; intro w2 o2 hg2; have hb2 : Below w.heap.size w w2 := (bel_alloc (Below.refl _ _) _).grown hg2 (by simp) (by simp); have q0 : w2.cell? ⟨w.heap.size, 0, none⟩ = some (.int .i64 (m : Int)) := hg2.cell (by simp) (by simp); have q1 : w2.cell? ⟨w.heap.size, 1, none⟩ = some (.slice A ws.length c) := hg2.cell (by simp) (by simp); have o2' : w2.ownsRow (w.heap.size + 1) 24 1 (.slice (some ⟨w.heap.size + 1, 0, none⟩) 16 16) 16 ((List.replicate 16 0).map u16w) := (by rw [← made_w]; simpa using o2); have O2 := Lib.hid o2'; clear hg2 o2 o2')
    with_reducible refine (kf.out _).mono ?_
    rintro e_ w3 ⟨rfl, hb3⟩
    have o3 := own_below O2.out hb3
    have hb3a : Below (w.heap.size + 1) w2 w3 := hb3.mono (by have := (O2.out.lt (w.heap.size + 1) rfl).2; omega)
    have p0 : w3.cell? ⟨w.heap.size, 0, none⟩ = some (.int .i64 (m : Int)) := (hb3a.cell (p := ⟨w.heap.size, 0, none⟩) (Nat.lt_succ_self _)).trans q0
    have p1 : w3.cell? ⟨w.heap.size, 1, none⟩ = some (.slice A ws.length c) := (hb3a.cell (p := ⟨w.heap.size, 1, none⟩) (Nat.lt_succ_self _)).trans q1
    have k0 : w3.cell? ⟨w.heap.size + 1, 0, none⟩ = some (.int .u16 0) := (o3.cellAt 0 (by omega)).trans rfl
    have k1 : w3.cell? ⟨w.heap.size + 1, 1, none⟩ = some (.int .u16 0) := (o3.cellAt 1 (by omega)).trans rfl
    have f0 : w3.frozen? ⟨w.heap.size + 1, 0, none⟩ = false := o3.frozenAt 0
    have f1 : w3.frozen? ⟨w.heap.size + 1, 1, none⟩ = false := o3.frozenAt 1
    have hbw3 : Below w.heap.size w w3 := hb2.trans (hb3.mono hb2.size)
    have O3 := Lib.hid o3
    have BW := Lib.hid hbw3
    clear hb3 hb3a hb2 q0 q1 o3 hbw3
    go_wp2
    obtain ⟨w4, hw4⟩ : ∃ w4, w4 = (w3.setCell ⟨w.heap.size + 1, 0, none⟩ (.int .u16 (m : Int))).setCell ⟨w.heap.size + 1, 1, none⟩ (.int .u16 (ws.length : Int)) := ⟨_, rfl⟩
    rw [← hw4]
    have o4 : w4.ownsRow (w.heap.size + 1) 24 1 (.slice (some ⟨w.heap.size + 1, 0, none⟩) 16 16) 16 ((ownK m ws.length ws 0).map u16w) := by
      rw [hw4, ownK_zero]
      exact own_set (own_set O3.out)
    have hb4 : Below (w.heap.size + 1) w3 w4 := by rw [hw4]; exact ((Below.refl _ _).setCell (p := ⟨w.heap.size + 1, 0, none⟩) (Nat.le_refl _) _).setCell (p := ⟨w.heap.size + 1, 1, none⟩) (Nat.le_refl _) _
    replace BW := Lib.hid (BW.out.trans (hb4.mono (Nat.le_succ _)))
    have r1 : w4.cell? ⟨w.heap.size, 1, none⟩ = some (.slice A ws.length c) := (hb4.cell (p := ⟨w.heap.size, 1, none⟩) (Nat.lt_succ_self _)).trans p1
    have O4 := Lib.hid o4
    clear hw4 o4 hb4 p0 p1 k0 k1 f0 f1 e1 e2
    go_loopw [4] (fun i wr => ∃ k : Nat, k ≤ ws.length ∧ i = .int .i64 k ∧ wr.ownsRow (w.heap.size + 1) 24 1 (.slice (some ⟨w.heap.size + 1, 0, none⟩) 16 16) 16 ((ownK m ws.length ws k).map u16w) ∧ Below (w.heap.size + 1) w4 wr) (fun i _ => ws.length - (intOf i).toNat)
    case atStart => exact ⟨0, by omega, rfl, O4.out, Below.refl _ _⟩
    case round =>
      obtain ⟨k, hk, rfl, hown, hbr⟩ := hrel
      have s1 : wr.cell? ⟨w.heap.size, 1, none⟩ = some (.slice A ws.length c) := (hbr.cell (p := ⟨w.heap.size, 1, none⟩) (Nat.lt_succ_self _)).trans r1
      have hbw : Below w.heap.size w wr := BW.out.trans (hbr.mono (Nat.le_succ _))
      by_cases hlt : k < ws.length
      · obtain ⟨b', o', x, hA, hb', hx, hcx⟩ := (hsq.out wr hbw).at_ hlt
        subst hA
        obtain ⟨old, hold⟩ : ∃ old, (ownK m ws.length ws k)[2 + k]? = some old := ⟨_, List.getElem?_eq_getElem (by simp [ownK, fillD]; omega)⟩
        have k0 : wr.cell? ⟨w.heap.size + 1, 2 + k, none⟩ = some (.int .u16 (old : Int)) := (hown.cellAt (2 + k) (by omega)).trans (map_get hold)
        have f0 := hown.frozenAt (2 + k)
        have hltI : (k : Int) < (ws.length : Int) := by omega
        have h0I : (0 : Int) ≤ (k : Int) := by omega
        have h2I : (2 : Int) + (k : Int) < 16 := by omega
        have hos := own_set (i := 2 + k) (x := x) hown
        rw [ownK_set (by omega) hx] at hos
        have HOS := Lib.hid hos
        have hkc : (k : Int) < (c : Int) ∨ True := .inr trivial
        clear hx hold hos hown hkc
        go_wp2
        go_roundw
        case rel => exact ⟨k + 1, by omega, by go_num, HOS.out, hbr.setCell (p := ⟨w.heap.size + 1, 2 + k, none⟩) (Nat.le_refl _) _⟩
        case measure => simp [intOf]; omega
      · obtain rfl : k = ws.length := by omega
        rw [HN.out] at hown
        go_wp2
        go_ret
        exact Makes.of_own HI.out (own_more hown (Nat.le_succ _)) hbw
end Go.Proofs.Ytajbghjjpebndaa
namespace Go.Proofs.Ytajbghjjpebndaa
set_option maxRecDepth 100000
open Go.RowKit
set_option linter.unusedVariables false
attribute [local go_sem] Later.cell Later.frozen setCell_twice
theorem own_lit4 (w : World) (a b c d : Nat) : (w.alloc (.cells #[.int .u16 (a : Int), .int .u16 (b : Int), .int .u16 (c : Int), .int .u16 (d : Int)] 24)).ownsRow w.heap.size 24 1 (.slice (some ⟨w.heap.size, 0, none⟩) 4 4) ([a, b, c, d] : List Nat).length (([a, b, c, d] : List Nat).map u16w) :=
  own_of_full (heap_alloc_new w _) (Nat.le_refl _) rfl (by decide)
end Go.Proofs.Ytajbghjjpebndaa
namespace Go.Proofs.Ytajbghjjpebndaa
set_option maxRecDepth 100000
open Go.RowKit
set_option linter.unusedVariables false
set_option linter.unusedSimpArgs false
attribute [local go_sem] Later.cell Later.frozen setCell_twice
theorem RowAt.loadAt {P : Program} {w : World} {g : Nat} {T : TypeId} {C : List Value} {d : TypeDesc} (hu : P.underlying T = some d) (hd : (match d with | .struct _ | .array _ _ => true | _ => false) = true) (hi : (P.info? T).map (·.size) = some C.length) (h : RowAt w g T C) :
    (Instr.loadAt T (.pointer (some ⟨g, 0, none⟩))).run P w = .ok (.agg C.toArray) w := by
  simp only [Instr.loadAt, Instr.sureAddr, Sem.run_bind, Sem.run_pure, Result.andThen_ok, h.load hu hd hi]
theorem takeD {P : Program} {md : Region.Mode} {ops : Array Oper} {Q : Exit → Act → World → Prop} {S : World → Prop} {i : Nat} {oi : Oper} {v : Value} {d : Option Tmp} {fuel : Nat} {listed : Array Bool} {a : Act} {w : World} (hi : ops[i]? = some oi)
    (hs : Region.noSelect ops = true) (hf : Region.free md ops listed i = true) (hr : (Region.ready md ops listed).contains i = true) (hd : oi.dst = d)
    (hQ : ∀ c a w, Q (.panic c) (a.put d v) w → Q (.panic c) a w) (hy : YieldsIf P ops S oi v a) (hS : S w)
    (h : wpAnyH P md ops Q S fuel (listed.setIfInBounds i true) (a.put d v) w) : wpAnyH P md ops Q S (fuel + 1) listed a w := by
  subst hd
  exact wpAnyH_take hi hs hf hr hQ hy hS h
theorem RowAt.all {w : World} {g : Nat} {T : TypeId} {C : List Value} (h : RowAt w g T C) : w.rangeAt g 0 C := fun j v hv => by rw [Nat.zero_add]; exact h.cell hv
theorem all_range_bools : ∀ (xs ys : List Bool), xs.length = ys.length → ((List.range xs.length).all fun i => xs.getD i false == ys.getD i false) = (xs == ys)
  | [], [], _ => rfl
  | x :: xs, y :: ys, h => by
    have ih := all_range_bools xs ys (by simpa using h)
    rw [List.length_cons, List.range_succ_eq_map, List.all_cons, List.all_map]
    simp only [List.getD_cons_zero, Function.comp_def, List.getD_cons_succ, ih]
    simp [List.cons_beq_cons]
  | [], _ :: _, h => by simp at h
  | _ :: _, [], h => by simp at h
section
variable {P : Program} (w : World)
theorem run_equalIn_bools (d : Nat) (t e : TypeId) (n : Nat) (ht : P.underlying t = some (.array n e)) (he : P.underlying e = some .bool) (hsz : ∀ w, (sizeOf e).run P w = .ok 1 w)
    (xs ys : List Bool) (hx : xs.length = n) (hy : ys.length = n) :
    (Op.equalIn (d + 2) t (.agg (xs.map Value.bool).toArray) (.agg (ys.map Value.bool).toArray)).run P w = .ok (xs == ys) w := by
  rw [← all_range_bools xs ys (hx.trans hy.symm), hx, List.range_eq_range', Op.equalIn]
  simp only [Sem.run_bind, run_underlying ht, Result.andThen_ok, hsz, Std.Legacy.Range.forIn_eq_forIn_range', Std.Legacy.Range.size, Nat.sub_zero, Nat.add_sub_cancel, Nat.div_one]
  have hl : ∀ i ∈ List.range' 0 n 1, i < n := fun i hi => by simpa using (List.mem_range'_1.1 hi).2
  generalize List.range' 0 n 1 = l at hl ⊢
  induction l with
  | nil => simp
  | cons i l ih =>
    have hi : i < n := hl i (by simp)
    have px : (part e (xs.map Value.bool).toArray (i * 1)).run P w = .ok (.bool (xs.getD i false)) w := by
      simp [part, isAgg, run_underlying he, List.getD, List.getElem?_eq_getElem (show i < xs.length by omega)]
    have py : (part e (ys.map Value.bool).toArray (i * 1)).run P w = .ok (.bool (ys.getD i false)) w := by
      simp [part, isAgg, run_underlying he, List.getD, List.getElem?_eq_getElem (show i < ys.length by omega)]
    have pe : (Op.equalIn (d + 1) e (.bool (xs.getD i false)) (.bool (ys.getD i false))).run P w = .ok (xs.getD i false == ys.getD i false) w := run_equalIn_bool' w d e _ _ he
    simp only [List.forIn_cons, Sem.run_bind, px, py, pe, Result.andThen_ok, List.all_cons]
    cases hb : (xs.getD i false == ys.getD i false)
    · simp
    · simp only [Bool.not_true, Bool.false_eq_true, if_false, Sem.run_pure, Result.andThen_ok, Bool.true_and]
      exact ih fun j hj => hl j (by simp [hj])
theorem run_eql_bools (t e : TypeId) (n : Nat) (ht : P.underlying t = some (.array n e)) (he : P.underlying e = some .bool) (hsz : ∀ w, (sizeOf e).run P w = .ok 1 w)
    (xs ys : List Bool) (hx : xs.length = n) (hy : ys.length = n) (r : Bool) (hr : decide (xs = ys) = r) :
    (binOp .eql t (.agg (xs.map Value.bool).toArray) (.agg (ys.map Value.bool).toArray)).run P w = .ok (.bool r) w := by
  rw [run_eql_struct, run_equalIn_bools w 9998 t e n ht he hsz xs ys hx hy, ← hr]
  simp only [Result.andThen]
  congr 2
  rw [Bool.eq_iff_iff]
  simp
end
/-- those that are there, and their blocks, tell the state -/
theorem ss_of {hs ks : List Bool} {ps qs : List Bk.Pr} (h : hs = ks) (ht : ssThere (ssOf hs ps) = ssThere (ssOf ks qs)) : ssOf hs ps = ssOf ks qs := by
  subst h
  unfold ssThere ssOf at *
  generalize List.range 8 = l at ht ⊢
  induction l with
  | nil => rfl
  | cons k l ih =>
    simp only [List.map_cons, List.filterMap_cons] at ht ⊢
    cases hk : hs.getD k false
    · rw [hk] at ht
      simp only [Bool.false_eq_true, if_false, id] at ht ⊢
      rw [ih ht]
    · rw [hk] at ht
      simp only [if_true, id] at ht ⊢
      injection ht with h1 h2
      rw [h1, ih h2]
theorem ss_hs {hs ks : List Bool} {ps qs : List Bk.Pr} (h1 : hs.length = 8) (h2 : ks.length = 8) (h : ssOf hs ps = ssOf ks qs) : hs = ks := by
  apply List.ext_getElem?
  intro k
  rcases Nat.lt_or_ge k 8 with hk | hk
  · have e := congrArg (fun S : SS => (S.getD k none).isSome) h
    simp only [ssOf_get hk] at e
    have q : ∀ (b : Bool) (p : Bk.Pr), (if b = true then some p else none).isSome = b := fun b p => by cases b <;> rfl
    rw [q, q] at e
    rw [List.getD_eq_getElem?_getD, List.getD_eq_getElem?_getD, List.getElem?_eq_getElem (by omega), List.getElem?_eq_getElem (by omega)] at e
    rw [List.getElem?_eq_getElem (by omega), List.getElem?_eq_getElem (by omega)]
    exact congrArg some e
  · rw [List.getElem?_eq_none (by omega), List.getElem?_eq_none (by omega)]
theorem same_iff {s s' : Stv} {w w' : World} {B B' tx tx' : Nat} {S S' : SS} (hs : s.Is w B tx S) (hs' : s'.Is w' B' tx' S') : s.hs = s'.hs ∧ ssThere S = ssThere S' ↔ S = S' := by
  rw [← hs.S, ← hs'.S]
  exact ⟨fun h => ss_of h.1 h.2, fun h => ⟨ss_hs hs.ok.lh hs'.ok.lh h, by rw [h]⟩⟩
set_option maxRecDepth 100000 in
set_option maxHeartbeats 1000000 in
theorem same_S {s s' : Stv} {B B' tx tx' : Nat} {S S' : SS} (r : Bool) (w : World) (hs : s.Is w B tx S) (hs' : s'.Is w B' tx' S') (hl : ∀ p ∈ ssThere S, p.2.length ≤ 140737488355328) (hr : decide (tx = tx' ∧ S = S') = r) :
    Calls Try.prog 48 #[.agg s.C.toArray, .agg s'.C.toArray] w fun e w' => e = .returned (.bool r) ∧ Below w.heap.size w w' := by
  have hiff := same_iff hs hs'
  have hR2 : RowAt ((w.alloc (.cells s.C.toArray 33)).alloc (.cells s'.C.toArray 33)) w.heap.size 33 s.C := RowAt.alloc (RowAt.new w 33 s.C) _
  have hR3 : RowAt ((w.alloc (.cells s.C.toArray 33)).alloc (.cells s'.C.toArray 33)) (w.heap.size + 1) 33 s'.C := by
    have := RowAt.new (w.alloc (.cells s.C.toArray 33)) 33 s'.C
    simpa using this
  have hC2 := hs.C25
  have hC3 := hs'.C25
  have c20 : ∀ W, RowAt W w.heap.size 33 s.C → W.cell? ⟨w.heap.size, 0, none⟩ = some (.int .u32 (s.tx : Int)) := fun W h => h.cell (Stv.C_tx s)
  have c30 : ∀ W, RowAt W (w.heap.size + 1) 33 s'.C → W.cell? ⟨w.heap.size + 1, 0, none⟩ = some (.int .u32 (s'.tx : Int)) := fun W h => h.cell (Stv.C_tx s')
  have htx : s.tx = tx := hs.tx
  have htx' : s'.tx = tx' := hs'.tx
  rw [htx] at c20
  rw [htx'] at c30
  by_cases h1 : tx = tx'
  · subst h1
    have g1 : ((tx : Int) == (tx : Int)) = true := by simp
    have hlen2 : (s.hs.map Value.bool).length = 8 := by simp [hs.ok.lh]
    have hlen3 : (s'.hs.map Value.bool).length = 8 := by simp [hs'.ok.lh]
    have q2 : ∀ W, RowAt W w.heap.size 33 s.C → W.rangeAt w.heap.size 1 (s.hs.map Value.bool) := fun W h => by
      have := h.range 1 8
      rwa [Stv.C_haves hs.ok.lh] at this
    have q3 : ∀ W, RowAt W (w.heap.size + 1) 33 s'.C → W.rangeAt (w.heap.size + 1) 1 (s'.hs.map Value.bool) := fun W h => by
      have := h.range 1 8
      rwa [Stv.C_haves hs'.ok.lh] at this
    by_cases h2 : s.hs = s'.hs
    · have hrt : decide (ssThere S = ssThere S') = r := by
        rw [← hr, decide_eq_decide]
        exact ⟨fun h => ⟨rfl, hiff.1 ⟨h2, h⟩⟩, fun h => (hiff.2 h.2).2⟩
      have keq := fun W => run_eql_bools (P := Try.prog) W 28 4 8 Try.underlying28 Try.underlying4 (fun _ => by kernel_rfl) s.hs s'.hs hs.ok.lh hs'.ok.lh true (by simpa using h2)
      have kA := Lib.hid (fun W (h : Below w.heap.size w W) => blocks_S W (hs.to h))
      have kB := Lib.hid (fun W (h : Below w.heap.size w W) => blocks_S W (hs'.to h))
      have ks := Lib.hid (fun W (A A' : Option Addr) (l l' : List Blk) (c c' : Nat) (hp : prs l = ssThere S) (hp' : prs l' = ssThere S') (h : Blks W W.heap.size A l) (h' : Blks W W.heap.size A' l') (hc : l.length ≤ 9223372036854775807) =>
        sameBlocks_any A A' l l' c c' _ _ r W rfl rfl h h' hc (fun b hb => hl b.pr (hp ▸ List.mem_map_of_mem hb)) (by rw [hp, hp']; exact hrt))
      have HTX := Lib.hid htx
      have HTX' := Lib.hid htx'
      clear hr hiff h2 htx htx' hrt
      have r2 := hR2
      have r3 := hR3
      go_enter Try.func48, Try.ntmps48
      go_wp2
      refine wp_region_held_drew (S := (fun w' => RowAt w' w.heap.size 33 s.C ∧ RowAt w' (w.heap.size + 1) 33 s'.C)) (by kernel_rfl) ?_ (fun hHeld => ?_)
      · exact ⟨hR2, hR3⟩
      refine takeD (i := 0) (oi := _) (v := ?vv1) (d := some 5) rfl (by kernel_rfl) (by kernel_rfl) (by kernel_rfl) (by kernel_rfl) (fun _ _ _ h => h) (Or.inl ⟨by kernel_rfl, ?_⟩) (by assumption) ?_
      rotate_left 1
      · intro W_ hSw; (try dsimp only at hSw); go_simp; (first | done | with_reducible rfl)
      try simp only [Act.put, List.setIfInBounds_toArray, List.set_cons_zero, List.set_cons_succ]
      refine takeD (i := 1) (oi := _) (v := ?vv2) (d := some 6) rfl (by kernel_rfl) (by kernel_rfl) (by kernel_rfl) (by kernel_rfl) (fun _ _ _ h => h) (Or.inl ⟨by kernel_rfl, ?_⟩) (by assumption) ?_
      rotate_left 1
      · intro W_ hSw; (try dsimp only at hSw); go_simp; (first | done | with_reducible rfl)
      try simp only [Act.put, List.setIfInBounds_toArray, List.set_cons_zero, List.set_cons_succ]
      refine takeD (i := 2) (oi := _) (v := ?vv3) (d := some 7) rfl (by kernel_rfl) (by kernel_rfl) (by kernel_rfl) (by kernel_rfl) (fun _ _ _ h => h) (Or.inl ⟨by kernel_rfl, ?_⟩) (by assumption) ?_
      rotate_left 1
      · intro W_ hSw; (try dsimp only at hSw); go_simp; (first | done | with_reducible rfl)
      try simp only [Act.put, List.setIfInBounds_toArray, List.set_cons_zero, List.set_cons_succ]
      refine takeD (i := 3) (oi := _) (v := ?vv4) (d := some 8) rfl (by kernel_rfl) (by kernel_rfl) (by kernel_rfl) (by kernel_rfl) (fun _ _ _ h => h) (Or.inl ⟨by kernel_rfl, ?_⟩) (by assumption) ?_
      rotate_left 1
      · intro W_ hSw; (try dsimp only at hSw); go_simp; (first | done | with_reducible rfl)
      try simp only [Act.put, List.setIfInBounds_toArray, List.set_cons_zero, List.set_cons_succ]
      refine takeD (i := 4) (oi := _) (v := ?vv5) (d := some 9) rfl (by kernel_rfl) (by kernel_rfl) (by kernel_rfl) (by kernel_rfl) (fun _ _ _ h => h) (Or.inl ⟨by kernel_rfl, ?_⟩) (by assumption) ?_
      rotate_left 1
      · intro W_ hSw; (try dsimp only at hSw); go_simp; (first | done | with_reducible rfl)
      try simp only [Act.put, List.setIfInBounds_toArray, List.set_cons_zero, List.set_cons_succ]
      refine takeD (i := 5) (oi := _) (v := ?vv6) (d := some 10) rfl (by kernel_rfl) (by kernel_rfl) (by kernel_rfl) (by kernel_rfl) (fun _ _ _ h => h) (Or.inl ⟨by kernel_rfl, ?_⟩) (by assumption) ?_
      rotate_left 1
      · intro W_ hSw; (try dsimp only at hSw); go_simp; (first | done | with_reducible rfl)
      try simp only [Act.put, List.setIfInBounds_toArray, List.set_cons_zero, List.set_cons_succ]
      refine takeD (i := 6) (oi := _) (v := ?vv7) (d := some 11) rfl (by kernel_rfl) (by kernel_rfl) (by kernel_rfl) (by kernel_rfl) (fun _ _ _ h => h) (Or.inl ⟨by kernel_rfl, ?_⟩) (by assumption) ?_
      rotate_left 1
      · intro W_ hSw; (try dsimp only at hSw); go_simp; (first | done | with_reducible rfl)
      try simp only [Act.put, List.setIfInBounds_toArray, List.set_cons_zero, List.set_cons_succ]
      refine takeD (i := 7) (oi := _) (v := _) (d := some 12) rfl (by kernel_rfl) (by kernel_rfl) (by kernel_rfl) (by kernel_rfl) (fun _ _ _ h => h) (yieldsIf_load_mid (by kernel_rfl) 28 (.tmp 11) (by kernel_rfl) w.heap.size 1 (by kernel_rfl) (s.hs.map Value.bool) _ (fun W h => q2 W h.1) Try.underlying28 rfl (by rw [hlen2]; exact size_haves)) (by assumption) ?_
      try simp only [Act.put, List.setIfInBounds_toArray, List.set_cons_zero, List.set_cons_succ]
      refine takeD (i := 8) (oi := _) (v := ?vv8) (d := some 13) rfl (by kernel_rfl) (by kernel_rfl) (by kernel_rfl) (by kernel_rfl) (fun _ _ _ h => h) (Or.inl ⟨by kernel_rfl, ?_⟩) (by assumption) ?_
      rotate_left 1
      · intro W_ hSw; (try dsimp only at hSw); go_simp; (first | done | with_reducible rfl)
      try simp only [Act.put, List.setIfInBounds_toArray, List.set_cons_zero, List.set_cons_succ]
      refine takeD (i := 9) (oi := _) (v := _) (d := some 14) rfl (by kernel_rfl) (by kernel_rfl) (by kernel_rfl) (by kernel_rfl) (fun _ _ _ h => h) (yieldsIf_load_mid (by kernel_rfl) 28 (.tmp 13) (by kernel_rfl) (w.heap.size + 1) 1 (by kernel_rfl) (s'.hs.map Value.bool) _ (fun W h => q3 W h.2) Try.underlying28 rfl (by rw [hlen3]; exact size_haves)) (by assumption) ?_
      try simp only [Act.put, List.setIfInBounds_toArray, List.set_cons_zero, List.set_cons_succ]
      refine takeD (i := 10) (oi := _) (v := ?vv9) (d := some 15) rfl (by kernel_rfl) (by kernel_rfl) (by kernel_rfl) (by kernel_rfl) (fun _ _ _ h => h) (Or.inl ⟨by kernel_rfl, ?_⟩) (by assumption) ?_
      rotate_left 1
      · intro W_ hSw; (try dsimp only at hSw); go_simp; (first | done | with_reducible rfl)
      try simp only [Act.put, List.setIfInBounds_toArray, List.set_cons_zero, List.set_cons_succ]
      refine takeD (i := 11) (oi := _) (v := ?vv10) (d := some 16) rfl (by kernel_rfl) (by kernel_rfl) (by kernel_rfl) (by kernel_rfl) (fun _ _ _ h => h) (Or.inl ⟨by kernel_rfl, ?_⟩) (by assumption) ?_
      rotate_left 1
      · intro W_ hSw; (try dsimp only at hSw); go_simp; (first | done | with_reducible rfl)
      try simp only [Act.put, List.setIfInBounds_toArray, List.set_cons_zero, List.set_cons_succ]
      refine takeD (i := 12) (oi := _) (v := ?vv11) (d := some 17) rfl (by kernel_rfl) (by kernel_rfl) (by kernel_rfl) (by kernel_rfl) (fun _ _ _ h => h) (Or.inl ⟨by kernel_rfl, ?_⟩) (by assumption) ?_
      rotate_left 1
      · intro W_ hSw; (try dsimp only at hSw); go_simp; (first | done | with_reducible rfl)
      try simp only [Act.put, List.setIfInBounds_toArray, List.set_cons_zero, List.set_cons_succ]
      refine takeD (i := 13) (oi := _) (v := _) (d := some 18) rfl (by kernel_rfl) (by kernel_rfl) (by kernel_rfl) (by kernel_rfl) (fun _ _ _ h => h) (yieldsIf_load_mid (by kernel_rfl) 33 (.tmp 2) (by kernel_rfl) w.heap.size 0 (by kernel_rfl) s.C _ (fun W h => h.1.all) Try.underlying33 rfl (by rw [size_25, hC2])) (by assumption) ?_
      try simp only [Act.put, List.setIfInBounds_toArray, List.set_cons_zero, List.set_cons_succ]
      refine takeD (i := 15) (oi := _) (v := _) (d := some 20) rfl (by kernel_rfl) (by kernel_rfl) (by kernel_rfl) (by kernel_rfl) (fun _ _ _ h => h) (yieldsIf_load_mid (by kernel_rfl) 33 (.tmp 3) (by kernel_rfl) (w.heap.size + 1) 0 (by kernel_rfl) s'.C _ (fun W h => h.2.all) Try.underlying33 rfl (by rw [size_25, hC3])) (by assumption) ?_
      try simp only [Act.put, List.setIfInBounds_toArray, List.set_cons_zero, List.set_cons_succ]
      refine wpAnyH_ready (rs := [14]) (by kernel_rfl) (by simp) ?_
      refine AllReadyH.cons (o := _) rfl (fun K hK => ?_) AllReadyH.nil
      go_simp
      (go_at_call 17; (with_reducible refine (kA.out _ (bel_alloc (bel_alloc (Below.refl _ _) _) _).drew).mono ?_); rintro e w3 ⟨A3, c3, bl3, rfl, hp3, hB3, hl3, hc3, hn3, hb3⟩; have r23 := hR2.drew.to hb3; have r33 := hR3.drew.to hb3; have hbw3 : Below w.heap.size w w3 := (bel_alloc (bel_alloc (Below.refl _ _) _) _).drew.trans (hb3.mono (by simp; omega)))
      go_wp2_with fail
      refine hK.out _ _ ?_ (fun hHeld => ?_)
      · exact ⟨r23, r33⟩
      clear hK K
      try simp only [Act.put, List.setIfInBounds_toArray, List.set_cons_zero, List.set_cons_succ]
      refine wpAnyH_ready (rs := [16]) (by kernel_rfl) (by simp) ?_
      refine AllReadyH.cons (o := _) rfl (fun K hK => ?_) AllReadyH.nil
      go_simp
      (go_at_call 17; (with_reducible refine (kB.out _ hbw3).mono ?_); rintro e w4 ⟨A4, c4, bl4, rfl, hp4, hB4, hl4, hc4, hn4, hb4⟩; have r24 := r23.to hb4; have r34 := r33.to hb4; have hB34 := hB3.to hb4; have hbw4 : Below w.heap.size w w4 := hbw3.trans (hb4.mono hbw3.size))
      go_wp2_with fail
      refine hK.out _ _ ?_ (fun hHeld => ?_)
      · exact ⟨r24, r34⟩
      clear hK K
      try simp only [Act.put, List.setIfInBounds_toArray, List.set_cons_zero, List.set_cons_succ]
      refine wpAnyH_ready (rs := [17]) (by kernel_rfl) (by simp) ?_
      refine AllReadyH.cons (o := _) rfl (fun K hK => ?_) AllReadyH.nil
      go_simp
      (go_at_call 80; (with_reducible refine (ks.out _ _ _ _ _ _ _ hp3 hp4 hB34 hB4 (Nat.le_trans hl3 hc3)).mono ?_); rintro e w5 ⟨rfl, hb5⟩; have r25 := r24.to hb5; have r35 := r34.to hb5; have hbw5 : Below w.heap.size w w5 := hbw4.trans (hb5.mono hbw4.size))
      go_wp2_with fail
      refine hK.out _ _ ?_ (fun hHeld => ?_)
      · exact ⟨r25, r35⟩
      clear hK K
      try simp only [Act.put, List.setIfInBounds_toArray, List.set_cons_zero, List.set_cons_succ]
      refine takeD (i := 18) (oi := _) (v := ?vv12) (d := some 23) rfl (by kernel_rfl) (by kernel_rfl) (by kernel_rfl) (by kernel_rfl) (fun _ _ _ h => h) (Or.inl ⟨by kernel_rfl, ?_⟩) (by assumption) ?_
      rotate_left 1
      · intro W_ hSw; (try dsimp only at hSw); go_simp; (first | done | with_reducible rfl)
      try simp only [Act.put, List.setIfInBounds_toArray, List.set_cons_zero, List.set_cons_succ]
      refine takeD (i := 19) (oi := _) (v := ?vv13) (d := some 4) rfl (by kernel_rfl) (by kernel_rfl) (by kernel_rfl) (by kernel_rfl) (fun _ _ _ h => h) (Or.inl ⟨by kernel_rfl, ?_⟩) (by assumption) ?_
      rotate_left 1
      · intro W_ hSw; (try dsimp only at hSw); go_simp; (first | done | with_reducible rfl)
      try simp only [Act.put, List.setIfInBounds_toArray, List.set_cons_zero, List.set_cons_succ]
      refine wpAnyH_done (by kernel_rfl) ?_ _
      go_wp2
      go_ret
      exact ⟨rfl, hbw5⟩
    · obtain rfl : r = false := by rw [← hr]; simp; exact fun e => h2 (hiff.2 e).1
      have keq := fun W => run_eql_bools (P := Try.prog) W 28 4 8 Try.underlying28 Try.underlying4 (fun _ => by kernel_rfl) s.hs s'.hs hs.ok.lh hs'.ok.lh false (by simpa using h2)
      clear hr hiff h2 htx htx'
      go_enter Try.func48, Try.ntmps48
      go_wp2
      refine wp_region_held_drew (S := (fun w' => RowAt w' w.heap.size 33 s.C ∧ RowAt w' (w.heap.size + 1) 33 s'.C)) (by kernel_rfl) ?_ (fun hHeld => ?_)
      · exact ⟨hR2, hR3⟩
      refine takeD (i := 0) (oi := _) (v := ?vv14) (d := some 5) rfl (by kernel_rfl) (by kernel_rfl) (by kernel_rfl) (by kernel_rfl) (fun _ _ _ h => h) (Or.inl ⟨by kernel_rfl, ?_⟩) (by assumption) ?_
      rotate_left 1
      · intro W_ hSw; (try dsimp only at hSw); go_simp; (first | done | with_reducible rfl)
      try simp only [Act.put, List.setIfInBounds_toArray, List.set_cons_zero, List.set_cons_succ]
      refine takeD (i := 1) (oi := _) (v := ?vv15) (d := some 6) rfl (by kernel_rfl) (by kernel_rfl) (by kernel_rfl) (by kernel_rfl) (fun _ _ _ h => h) (Or.inl ⟨by kernel_rfl, ?_⟩) (by assumption) ?_
      rotate_left 1
      · intro W_ hSw; (try dsimp only at hSw); go_simp; (first | done | with_reducible rfl)
      try simp only [Act.put, List.setIfInBounds_toArray, List.set_cons_zero, List.set_cons_succ]
      refine takeD (i := 2) (oi := _) (v := ?vv16) (d := some 7) rfl (by kernel_rfl) (by kernel_rfl) (by kernel_rfl) (by kernel_rfl) (fun _ _ _ h => h) (Or.inl ⟨by kernel_rfl, ?_⟩) (by assumption) ?_
      rotate_left 1
      · intro W_ hSw; (try dsimp only at hSw); go_simp; (first | done | with_reducible rfl)
      try simp only [Act.put, List.setIfInBounds_toArray, List.set_cons_zero, List.set_cons_succ]
      refine takeD (i := 3) (oi := _) (v := ?vv17) (d := some 8) rfl (by kernel_rfl) (by kernel_rfl) (by kernel_rfl) (by kernel_rfl) (fun _ _ _ h => h) (Or.inl ⟨by kernel_rfl, ?_⟩) (by assumption) ?_
      rotate_left 1
      · intro W_ hSw; (try dsimp only at hSw); go_simp; (first | done | with_reducible rfl)
      try simp only [Act.put, List.setIfInBounds_toArray, List.set_cons_zero, List.set_cons_succ]
      refine takeD (i := 4) (oi := _) (v := ?vv18) (d := some 9) rfl (by kernel_rfl) (by kernel_rfl) (by kernel_rfl) (by kernel_rfl) (fun _ _ _ h => h) (Or.inl ⟨by kernel_rfl, ?_⟩) (by assumption) ?_
      rotate_left 1
      · intro W_ hSw; (try dsimp only at hSw); go_simp; (first | done | with_reducible rfl)
      try simp only [Act.put, List.setIfInBounds_toArray, List.set_cons_zero, List.set_cons_succ]
      refine takeD (i := 5) (oi := _) (v := ?vv19) (d := some 10) rfl (by kernel_rfl) (by kernel_rfl) (by kernel_rfl) (by kernel_rfl) (fun _ _ _ h => h) (Or.inl ⟨by kernel_rfl, ?_⟩) (by assumption) ?_
      rotate_left 1
      · intro W_ hSw; (try dsimp only at hSw); go_simp; (first | done | with_reducible rfl)
      try simp only [Act.put, List.setIfInBounds_toArray, List.set_cons_zero, List.set_cons_succ]
      refine takeD (i := 6) (oi := _) (v := ?vv20) (d := some 11) rfl (by kernel_rfl) (by kernel_rfl) (by kernel_rfl) (by kernel_rfl) (fun _ _ _ h => h) (Or.inl ⟨by kernel_rfl, ?_⟩) (by assumption) ?_
      rotate_left 1
      · intro W_ hSw; (try dsimp only at hSw); go_simp; (first | done | with_reducible rfl)
      try simp only [Act.put, List.setIfInBounds_toArray, List.set_cons_zero, List.set_cons_succ]
      refine takeD (i := 7) (oi := _) (v := _) (d := some 12) rfl (by kernel_rfl) (by kernel_rfl) (by kernel_rfl) (by kernel_rfl) (fun _ _ _ h => h) (yieldsIf_load_mid (by kernel_rfl) 28 (.tmp 11) (by kernel_rfl) w.heap.size 1 (by kernel_rfl) (s.hs.map Value.bool) _ (fun W h => q2 W h.1) Try.underlying28 rfl (by rw [hlen2]; exact size_haves)) (by assumption) ?_
      try simp only [Act.put, List.setIfInBounds_toArray, List.set_cons_zero, List.set_cons_succ]
      refine takeD (i := 8) (oi := _) (v := ?vv21) (d := some 13) rfl (by kernel_rfl) (by kernel_rfl) (by kernel_rfl) (by kernel_rfl) (fun _ _ _ h => h) (Or.inl ⟨by kernel_rfl, ?_⟩) (by assumption) ?_
      rotate_left 1
      · intro W_ hSw; (try dsimp only at hSw); go_simp; (first | done | with_reducible rfl)
      try simp only [Act.put, List.setIfInBounds_toArray, List.set_cons_zero, List.set_cons_succ]
      refine takeD (i := 9) (oi := _) (v := _) (d := some 14) rfl (by kernel_rfl) (by kernel_rfl) (by kernel_rfl) (by kernel_rfl) (fun _ _ _ h => h) (yieldsIf_load_mid (by kernel_rfl) 28 (.tmp 13) (by kernel_rfl) (w.heap.size + 1) 1 (by kernel_rfl) (s'.hs.map Value.bool) _ (fun W h => q3 W h.2) Try.underlying28 rfl (by rw [hlen3]; exact size_haves)) (by assumption) ?_
      try simp only [Act.put, List.setIfInBounds_toArray, List.set_cons_zero, List.set_cons_succ]
      refine takeD (i := 10) (oi := _) (v := ?vv22) (d := some 15) rfl (by kernel_rfl) (by kernel_rfl) (by kernel_rfl) (by kernel_rfl) (fun _ _ _ h => h) (Or.inl ⟨by kernel_rfl, ?_⟩) (by assumption) ?_
      rotate_left 1
      · intro W_ hSw; (try dsimp only at hSw); go_simp; (first | done | with_reducible rfl)
      try simp only [Act.put, List.setIfInBounds_toArray, List.set_cons_zero, List.set_cons_succ]
      refine takeD (i := 11) (oi := _) (v := ?vv23) (d := some 16) rfl (by kernel_rfl) (by kernel_rfl) (by kernel_rfl) (by kernel_rfl) (fun _ _ _ h => h) (Or.inl ⟨by kernel_rfl, ?_⟩) (by assumption) ?_
      rotate_left 1
      · intro W_ hSw; (try dsimp only at hSw); go_simp; (first | done | with_reducible rfl)
      try simp only [Act.put, List.setIfInBounds_toArray, List.set_cons_zero, List.set_cons_succ]
      refine takeD (i := 12) (oi := _) (v := ?vv24) (d := some 17) rfl (by kernel_rfl) (by kernel_rfl) (by kernel_rfl) (by kernel_rfl) (fun _ _ _ h => h) (Or.inl ⟨by kernel_rfl, ?_⟩) (by assumption) ?_
      rotate_left 1
      · intro W_ hSw; (try dsimp only at hSw); go_simp; (first | done | with_reducible rfl)
      try simp only [Act.put, List.setIfInBounds_toArray, List.set_cons_zero, List.set_cons_succ]
      refine takeD (i := 13) (oi := _) (v := undef) (d := some 18) rfl (by kernel_rfl) (by kernel_rfl) (by kernel_rfl) (by kernel_rfl) (fun _ _ _ h => h) (Or.inr ⟨by kernel_rfl, rfl⟩) (by assumption) ?_
      try simp only [Act.put, List.setIfInBounds_toArray, List.set_cons_zero, List.set_cons_succ]
      refine takeD (i := 14) (oi := _) (v := undef) (d := some 19) rfl (by kernel_rfl) (by kernel_rfl) (by kernel_rfl) (by kernel_rfl) (fun _ _ _ h => h) (Or.inr ⟨by kernel_rfl, rfl⟩) (by assumption) ?_
      try simp only [Act.put, List.setIfInBounds_toArray, List.set_cons_zero, List.set_cons_succ]
      refine takeD (i := 15) (oi := _) (v := undef) (d := some 20) rfl (by kernel_rfl) (by kernel_rfl) (by kernel_rfl) (by kernel_rfl) (fun _ _ _ h => h) (Or.inr ⟨by kernel_rfl, rfl⟩) (by assumption) ?_
      try simp only [Act.put, List.setIfInBounds_toArray, List.set_cons_zero, List.set_cons_succ]
      refine takeD (i := 16) (oi := _) (v := undef) (d := some 21) rfl (by kernel_rfl) (by kernel_rfl) (by kernel_rfl) (by kernel_rfl) (fun _ _ _ h => h) (Or.inr ⟨by kernel_rfl, rfl⟩) (by assumption) ?_
      try simp only [Act.put, List.setIfInBounds_toArray, List.set_cons_zero, List.set_cons_succ]
      refine takeD (i := 17) (oi := _) (v := undef) (d := some 22) rfl (by kernel_rfl) (by kernel_rfl) (by kernel_rfl) (by kernel_rfl) (fun _ _ _ h => h) (Or.inr ⟨by kernel_rfl, rfl⟩) (by assumption) ?_
      try simp only [Act.put, List.setIfInBounds_toArray, List.set_cons_zero, List.set_cons_succ]
      refine takeD (i := 18) (oi := _) (v := ?vv25) (d := some 23) rfl (by kernel_rfl) (by kernel_rfl) (by kernel_rfl) (by kernel_rfl) (fun _ _ _ h => h) (Or.inl ⟨by kernel_rfl, ?_⟩) (by assumption) ?_
      rotate_left 1
      · intro W_ hSw; (try dsimp only at hSw); go_simp; (first | done | with_reducible rfl)
      try simp only [Act.put, List.setIfInBounds_toArray, List.set_cons_zero, List.set_cons_succ]
      refine takeD (i := 19) (oi := _) (v := ?vv26) (d := some 4) rfl (by kernel_rfl) (by kernel_rfl) (by kernel_rfl) (by kernel_rfl) (fun _ _ _ h => h) (Or.inl ⟨by kernel_rfl, ?_⟩) (by assumption) ?_
      rotate_left 1
      · intro W_ hSw; (try dsimp only at hSw); go_simp; (first | done | with_reducible rfl)
      try simp only [Act.put, List.setIfInBounds_toArray, List.set_cons_zero, List.set_cons_succ]
      refine wpAnyH_done (by kernel_rfl) ?_ _
      go_wp2
      go_ret
      exact ⟨rfl, (by repeat (first | with_reducible exact Below.refl _ _ | with_reducible refine bel_later _ ?_ | with_reducible refine bel_alloc ?_ _ | refine bel_set ?_ (by first | omega | (simp; done) | (simp; omega)) _ | with_reducible refine Below.drew ?_ | with_reducible refine bel_drewN ?_ _ | with_reducible assumption | assumption))⟩
  · obtain rfl : r = false := by rw [← hr]; simp [h1]
    have g1 : ((tx : Int) == (tx' : Int)) = false := beq_eq_false_iff_ne.2 (by omega)
    have c20' := c20 _ hR2
    have c30' := c30 _ hR3
    clear hr hiff c20 c30 h1
    go_enter Try.func48, Try.ntmps48
    go_wp2
    go_quiet (fail)
    go_wp2
    go_ret
    exact ⟨rfl, (by repeat (first | with_reducible exact Below.refl _ _ | with_reducible refine bel_later _ ?_ | with_reducible refine bel_alloc ?_ _ | refine bel_set ?_ (by first | omega | (simp; done) | (simp; omega)) _ | with_reducible refine Below.drew ?_ | with_reducible refine bel_drewN ?_ _ | with_reducible assumption | assumption))⟩
end Go.Proofs.Ytajbghjjpebndaa
