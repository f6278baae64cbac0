/- Layer 23: the walk of LedgerTells. -/
import Derived.Test.YtegmeodmjaijnaaLgLight
namespace Go.Proofs.Ytegmeodmjaijnaa
open Go.RowKit
set_option linter.unusedVariables false
set_option linter.unusedSimpArgs false
attribute [local go_sem] Later.cell Later.frozen setCell_twice
def erI (o : Option (List Jp)) : Int := if o.isSome then 0 else 230
theorem LgP.any {base : Nat} {o : Option (List Jp)} {w w' : World} {e : Ending} (h : LgP base o w e w') : ∃ A n c jl, e = .returned (.tuple #[.slice A n c, .int .i64 (erI o)]) ∧ Below base w w' ∧ Hid (jl.length = n ∧ Jbs w' w'.heap.size A jl ∧ jps jl = o.getD []) := by
  obtain ⟨hb, ⟨rfl, rfl⟩ | ⟨L, A, n, c, jl, rfl, rfl, rfl, hJ⟩⟩ := h
  · exact ⟨none, 0, 0, [], rfl, hb, Lib.hid ⟨rfl, Jbs.nil, rfl⟩⟩
  · exact ⟨A, n, c, jl, rfl, hb, Lib.hid ⟨hJ.len, hJ.jbs, rfl⟩⟩
theorem RgP.any {o : Option (List Jp)} {w w' : World} {e : Ending} (h : RgP o w e w') : ∃ A n c jl, e = .returned (.tuple #[.slice A n c, .int .i64 (erI o)]) ∧ Below w.heap.size w w' ∧ Hid (jl.length = n ∧ Jbs w' w'.heap.size A jl ∧ jps jl = o.getD []) := by
  obtain ⟨A, n, c, b, rfl, hb, h⟩ := h
  rcases h.out with ⟨rfl, rfl, rfl, rfl, rfl⟩ | ⟨rfl, jl, rfl, hl, hJ⟩
  · exact ⟨none, 0, 0, [], rfl, hb, Lib.hid ⟨rfl, Jbs.nil, rfl⟩⟩
  · exact ⟨A, n, c, jl, rfl, hb, Lib.hid ⟨hl, hJ, rfl⟩⟩
/-- how long the ledger is -/
theorem made_len {l : List Nr} {n : Nat} {jl : List Jb} (h : jps jl = (Jp.make l).getD []) (hl : jl.length = n) (h80 : l.length ≤ 80) : n ≤ 80 := by
  have h1 := congrArg List.length h
  rw [jps, List.length_map, hl] at h1
  cases hm : Jp.make l with
  | none => rw [hm] at h1; simp at h1; omega
  | some L =>
    rw [hm] at h1
    have := Jp.makeFrom_length _ hm
    simp at h1 this
    omega
theorem put_len {L : List Jp} {x : Nr} {n : Nat} {jl : List Jb} (h : jps jl = (Jp.put L x).getD []) (hl : jl.length = n) (h80 : L.length ≤ 80) : n ≤ 81 := by
  have h1 := congrArg List.length h
  rw [jps, List.length_map, hl] at h1
  cases hm : Jp.put L x with
  | none => rw [hm] at h1; simp at h1; omega
  | some L' =>
    rw [hm] at h1
    have := Jp.put_length hm
    simp at h1 this
    omega
set_option maxRecDepth 100000 in
set_option maxHeartbeats 4000000 in
theorem ledgerTells_any (A B C : Option Addr) (l : List Rc) (a b : List Jb) (cl ca cb nl na nb tx : Nat) (w : World) (hnl : l.length = nl) (hna : a.length = na) (hnb : b.length = nb) (hl : Rcs w w.heap.size A l) (ha : Jbs w w.heap.size B a) (hb : Jbs w w.heap.size C b) (htx : tx < 4294967296) :
    Calls Try.prog 7 #[.slice A nl cl, .slice B na ca, .slice C nb cb, .int .u32 (tx : Int)] w fun e w' => e = .returned (.bool true) ∧ Below w.heap.size w w' := by
  have HL := Lib.hid hl
  have HA := Lib.hid ha
  have HB := Lib.hid hb
  have HNL := Lib.hid hnl
  have HNA := Lib.hid hna
  have HNB := Lib.hid hnb
  clear hl ha hb hnl hna hnb
  go_enter Try.func7, Try.ntmps7
  go_wp2_with fail
  refine (light_any A B l a cl ca nl na w HNL.out HNA.out HL.out HA.out).mono ?_
  rintro e w1 ⟨r1, rfl, b1, h1⟩
  have B1 := Lib.hid b1
  clear b1
  cases r1
  · have BX := B1
    go_wp2_with fail
    refine (awake_any _).mono ?_
    rintro e w9 ⟨rfl, b9⟩
    have B9 := Lib.hid (BX.out.trans (b9.mono BX.out.size))
    clear b9
    go_wp2
    go_ret
    exact ⟨rfl, B9.out⟩
  have LT1 := Lib.hid (h1.out rfl)
  clear h1
  go_wp2_with fail
  refine (light_any none C [] b 0 cb 0 nb w1 rfl HNB.out (Rcs.of_nil _) (HB.out.to B1.out)).mono ?_
  rintro e w2 ⟨r2, rfl, b2, h2⟩
  have B2 := Lib.hid (B1.out.trans (b2.mono B1.out.size))
  clear b2
  cases r2
  · have BX := B2
    go_wp2_with fail
    refine (awake_any _).mono ?_
    rintro e w9 ⟨rfl, b9⟩
    have B9 := Lib.hid (BX.out.trans (b9.mono BX.out.size))
    clear b9
    go_wp2
    go_ret
    exact ⟨rfl, B9.out⟩
  have LT2 := Lib.hid (h2.out rfl)
  have h80l : nl ≤ 80 := by rw [← HNL.out]; exact LT1.out.ln
  have h80a : na ≤ 80 := by rw [← HNA.out]; exact LT1.out.jn
  have h80b : nb ≤ 80 := by rw [← HNB.out]; exact LT2.out.jn
  clear h2 B1
  go_wp2_with fail
  refine (jmake_any A nl cl l w2 (HL.out.to B2.out) HNL.out (by omega) (fun y hy => Nat.le_trans (LT1.out.lt y hy) (by decide))).mono ?_
  intro e w3 h3
  obtain ⟨A3, n3, c3, jl3, rfl, b3, H3⟩ := h3.any
  have B3 := Lib.hid (B2.out.trans (b3.mono B2.out.size))
  clear b3 h3 B2
  go_wp2_with fail
  refine (rjmake_any A nl cl l w3 (HL.out.to B3.out) HNL.out (by omega)).mono ?_
  intro e w4 h4
  obtain ⟨A4, n4, c4, jl4, rfl, b4, H4⟩ := h4.any
  have B4 := Lib.hid (B3.out.trans (b4.mono B3.out.size))
  have J3 := Lib.hid (H3.out.2.1.to b4)
  have HLL : Hid ((l.map Rc.p).length ≤ 80) := Lib.hid (by rw [List.length_map, HNL.out]; exact h80l)
  have hn3 : n3 ≤ 80 := made_len H3.out.2.2 H3.out.1 HLL.out
  have hn4 : n4 ≤ 80 := made_len H4.out.2.2 H4.out.1 HLL.out
  have HQ : Hid (Jp.eqs (jps jl3) (jps jl4) = true) := Lib.hid (by rw [H3.out.2.2, H4.out.2.2]; exact Jp.eqs_self _)
  obtain ⟨ei, hei⟩ : ∃ ei, erI (Jp.make (l.map Rc.p)) = ei := ⟨_, rfl⟩
  rw [hei]
  clear b4 h4 B3 hei
  obtain ⟨r, hr⟩ : ∃ r, Jp.right (jps a) = r := ⟨_, rfl⟩
  have HR := Lib.hid hr
  clear hr
  go_wp2_with fail
  refine (rjright_any B a ca na w4 HNA.out (HA.out.to B4.out) (by omega)).mono ?_
  rintro e w5 ⟨rfl, b5⟩
  have B5 := Lib.hid (B4.out.trans (b5.mono B4.out.size))
  have J35 := Lib.hid (J3.out.to b5)
  have J45 := Lib.hid (H4.out.2.1.to b5)
  rw [HR.out]
  clear b5 B4
  go_wp2_with fail
  refine (rjsame_any A3 A4 jl3 jl4 c3 c4 n3 n4 w5 H3.out.1 H4.out.1 J35.out J45.out (by omega)).mono ?_
  rintro e w6 ⟨rfl, b6⟩
  have B6 := Lib.hid (B5.out.trans (b6.mono B5.out.size))
  rw [HQ.out]
  clear b6 B5
  go_wp2_with fail
  refine (jright_any B a ca na w6 HNA.out (HA.out.to B6.out) (by omega)).mono ?_
  rintro e w7 ⟨rfl, b7⟩
  have B7 := Lib.hid (B6.out.trans (b7.mono B6.out.size))
  rw [HR.out]
  clear b7 B6
  obtain ⟨rs, hrs⟩ : ∃ rs, Jp.eqs (jps a) (jps b) = rs := ⟨_, rfl⟩
  have HRS := Lib.hid hrs
  clear hrs
  have grr : (r != r) = false := by simp
  go_wp2_with fail
  refine (jsame_any B C a b ca cb na nb w7 HNA.out HNB.out (HA.out.to B7.out) (HB.out.to B7.out) (by omega)).mono ?_
  rintro e w8 ⟨rfl, b8⟩
  have B8 := Lib.hid (B7.out.trans (b8.mono B7.out.size))
  rw [HRS.out]
  clear b8 B7
  go_wp2_with fail
  refine (rjsame_any B C a b ca cb na nb w8 HNA.out HNB.out (HA.out.to B8.out) (HB.out.to B8.out) (by omega)).mono ?_
  rintro e w10 ⟨rfl, b10⟩
  have B10 := Lib.hid (B8.out.trans (b10.mono B8.out.size))
  rw [HRS.out]
  clear b10 B8
  cases r
  · have BX := B10
    go_wp2_with fail
    refine (awake_any _).mono ?_
    rintro e w9 ⟨rfl, b9⟩
    have B9 := Lib.hid (BX.out.trans (b9.mono BX.out.size))
    clear b9
    go_wp2
    go_ret
    exact ⟨rfl, B9.out⟩
  have HSR := Lib.hid (Jp.rightFrom_sorted (l := jps a) HR.out).1
  have HJF : Hid (∀ j ∈ jps a, j.tx < 4294967296) := Lib.hid (by
    intro j hj
    obtain ⟨y, hy, rfl⟩ := List.mem_map.1 hj
    exact ((HA.out.ok y hy).fit).tx)
  go_wp2_with fail
  refine (jfind_any B a ca na tx w10 HNA.out (HA.out.to B10.out) (by omega) HSR.out).mono ?_
  rintro e w11 ⟨rfl, b11⟩
  have B11 := Lib.hid (B10.out.trans (b11.mono B10.out.size))
  clear b11 B10
  obtain ⟨fo, hfo⟩ : ∃ fo, Jp.find (jps a) tx = fo := ⟨_, rfl⟩
  have HFO := Lib.hid hfo
  rw [hfo]
  clear hfo
  go_wp2_with fail
  (with_reducible refine (rjfind_any B a ca na tx w11 HNA.out (HA.out.to B11.out) (by omega) HSR.out).mono ?_)
  rintro e w12 ⟨rfl, rfl⟩
  rw [HFO.out]
  cases fo with
  | none =>
    simp only [fndI, Option.getD_none, Option.isSome_none]
    go_wp2_with fail
    refine (jshut_any B a ca na w11 HNA.out (HA.out.to B11.out) (by omega)).mono ?_
    intro e w13 h13
    obtain ⟨A13, n13, c13, rl13, rfl, b13, h13⟩ := h13.form HJF.out
    have B13 := Lib.hid (B11.out.trans (b13.mono B11.out.size))
    clear b13 B11
    go_wp2_with fail
    refine (rjshut_any B a ca na w13 HNA.out (HA.out.to B13.out) (by omega)).mono ?_
    intro e w14 h14
    obtain ⟨A14, n14, c14, rl14, rfl, b14, h14⟩ := h14.form HJF.out
    have B14 := Lib.hid (B13.out.trans (b14.mono B13.out.size))
    have R13 := Lib.hid (h13.out.2.2.to b14)
    have HSQ : Hid (Nr.eqs (rl13.map Rc.p) (rl14.map Rc.p) = true) := Lib.hid (by rw [h13.out.1, h14.out.1]; exact (Nr.eqs_iff _ _).2 rfl)
    have hn13 : n13 ≤ 80 := by
      have h := congrArg List.length h13.out.1
      have h' := Jp.shut_length (jps a)
      rw [List.length_map, h13.out.2.1] at h
      rw [jps, List.length_map, HNA.out] at h'
      rw [← jps] at h'
      omega
    clear b14 B13
    go_wp2_with fail
    refine (all_any A13 A14 rl13 rl14 c13 c14 n13 n14 w14 h13.out.2.1 h14.out.2.1 R13.out h14.out.2.2 (by omega)).mono ?_
    rintro e w15 ⟨rfl, b15⟩
    rw [HSQ.out]
    have B15 := Lib.hid (B14.out.trans (b15.mono B14.out.size))
    clear b15 B14
    go_wp2
    obtain ⟨W0, hW0⟩ : ∃ W0, W0 = w15 := ⟨_, rfl⟩
    go_loopw [101] (fun i wr => ∃ k : Nat, k ≤ nl ∧ i = .int .i64 (k : Int) ∧ Hid (Below w.heap.size w wr)) (fun i _ => nl - (intOf i).toNat)
    case atStart => exact ⟨0, by omega, rfl, B15⟩
    case round =>
      rename World => wr
      obtain ⟨k, hk, rfl, BR⟩ := hrel
      by_cases hlt : k < nl
      · obtain ⟨g1, o1, x, rfl, hg1, hx, hxo, hx0, hx1, hx2, hx3, hx4⟩ := (HL.out.to BR.out).at_ (k := k) (by rw [HNL.out]; exact hlt)
        have hltI : (k : Int) < (nl : Int) := by omega
        have h0I : (0 : Int) ≤ (k : Int) := by omega
        have HXT : Hid (x.p.text.length ≤ 300) := Lib.hid (LT1.out.lt x (List.mem_of_getElem? hx))
        have HXO := Lib.hid hxo
        obtain ⟨⟨what, xtx, who, yes, text⟩, XA, xc⟩ := x
        dsimp only at hx0 hx1 hx2 hx3 hx4 HXT
        obtain ⟨m, hm⟩ : ∃ m, text.length = m := ⟨_, rfl⟩
        have HM := Lib.hid hm
        rw [hm] at hx4 HXT
        clear hx hxo hm
        go_upto_region 17 with fail
        obtain ⟨V, hV⟩ : ∃ V, wr.alloc (.cells #[.int .u8 (what : Int), .int .u32 (xtx : Int), .int .u8 (who : Int), .bool yes, .slice XA m xc] 31) = V := ⟨_, rfl⟩
        obtain ⟨gv, hgv⟩ : ∃ gv, wr.heap.size = gv := ⟨_, rfl⟩
        have RV : Hid (RowAt V gv 31 (rcV what xtx who yes XA m xc)) := Lib.hid (by rw [← hV, ← hgv]; exact RowAt.new _ _ _)
        have bV : Below wr.heap.size wr V := by rw [← hV]; exact bel_alloc (Below.refl _ _) _
        rw [hV]
        have BV : Hid (Below w.heap.size w V) := Lib.hid (BR.out.trans (bV.mono BR.out.size))
        have XV : Hid (RcOk V V.heap.size ⟨⟨what, xtx, who, yes, text⟩, XA, xc⟩) := Lib.hid ((HXO.out.below bV).more bV.size)
        have HNL2 : Hid (XA = none → xc = 0) := Lib.hid (And.left (show _ ∧ _ from HXO.out.nl))
        rw [hgv]
        clear hV hgv bV hx0 hx1 hx2 hx3 hx4
        have dlt : gv < (V).heap.size := RV.out.lt
        have dlu : gv < (V).heap.size + 1 := Nat.lt_succ_of_lt RV.out.lt
        have d0 : (V).cell? ⟨gv, 0, none⟩ = some (.int .u8 (what : Int)) := RV.out.cells 0
        have dz0 : (V).frozen? ⟨gv, 0, none⟩ = false := RV.out.frozen 0
        have d1 : (V).cell? ⟨gv, 1, none⟩ = some (.int .u32 (xtx : Int)) := RV.out.cells 1
        have dz1 : (V).frozen? ⟨gv, 1, none⟩ = false := RV.out.frozen 1
        have d2 : (V).cell? ⟨gv, 2, none⟩ = some (.int .u8 (who : Int)) := RV.out.cells 2
        have dz2 : (V).frozen? ⟨gv, 2, none⟩ = false := RV.out.frozen 2
        have d3 : (V).cell? ⟨gv, 3, none⟩ = some (.bool yes) := RV.out.cells 3
        have dz3 : (V).frozen? ⟨gv, 3, none⟩ = false := RV.out.frozen 3
        have d4 : (V).cell? ⟨gv, 4, none⟩ = some (.slice XA m xc) := RV.out.cells 4
        have dz4 : (V).frozen? ⟨gv, 4, none⟩ = false := RV.out.frozen 4
        go_wp2_with fail
        (with_reducible refine (jadd_any B na ca a what xtx who yes text XA m xc V (HA.out.to BV.out) HNA.out HM.out XV.out.sq XV.out.fit HNL2.out HSR.out (by omega) (by have := HXT.out; omega) (fun y hy => Nat.le_trans (LT1.out.jt y hy) (by decide))).mono ?_)
        intro e w16 h16
        obtain ⟨A16, n16, c16, jl16, rfl, b16, H16⟩ := h16.any
        have B16 := Lib.hid (BV.out.trans (b16.mono BV.out.size))
        have R16 := Lib.hid (RV.out.to b16)
        have X16 := Lib.hid ((XV.out.below b16).more b16.size)
        clear h16 b16 d0 d1 d2 d3 d4 dz0 dz1 dz2 dz3 dz4 dlt dlu XV RV BV
        have dlt : gv < (w16).heap.size := R16.out.lt
        have dlu : gv < (w16).heap.size + 1 := Nat.lt_succ_of_lt R16.out.lt
        have d0 : (w16).cell? ⟨gv, 0, none⟩ = some (.int .u8 (what : Int)) := R16.out.cells 0
        have dz0 : (w16).frozen? ⟨gv, 0, none⟩ = false := R16.out.frozen 0
        have d1 : (w16).cell? ⟨gv, 1, none⟩ = some (.int .u32 (xtx : Int)) := R16.out.cells 1
        have dz1 : (w16).frozen? ⟨gv, 1, none⟩ = false := R16.out.frozen 1
        have d2 : (w16).cell? ⟨gv, 2, none⟩ = some (.int .u8 (who : Int)) := R16.out.cells 2
        have dz2 : (w16).frozen? ⟨gv, 2, none⟩ = false := R16.out.frozen 2
        have d3 : (w16).cell? ⟨gv, 3, none⟩ = some (.bool yes) := R16.out.cells 3
        have dz3 : (w16).frozen? ⟨gv, 3, none⟩ = false := R16.out.frozen 3
        have d4 : (w16).cell? ⟨gv, 4, none⟩ = some (.slice XA m xc) := R16.out.cells 4
        have dz4 : (w16).frozen? ⟨gv, 4, none⟩ = false := R16.out.frozen 4
        go_wp2_with fail
        (with_reducible refine (rjadd_any B na ca a what xtx who yes text XA m xc w16 (HA.out.to B16.out) HNA.out HM.out X16.out HSR.out (by omega)).mono ?_)
        intro e w17 h17
        obtain ⟨A17, n17, c17, jl17, rfl, b17, H17⟩ := h17.any
        have B17 := Lib.hid (B16.out.trans (b17.mono B16.out.size))
        have J16 := Lib.hid (H16.out.2.1.to b17)
        have HLA : Hid ((jps a).length ≤ 80) := Lib.hid (by rw [jps, List.length_map, HNA.out]; exact h80a)
        have hn16 : n16 ≤ 81 := put_len H16.out.2.2 H16.out.1 HLA.out
        have HQ2 : Hid (Jp.eqs (jps jl16) (jps jl17) = true) := Lib.hid (by rw [H16.out.2.2, H17.out.2.2]; exact Jp.eqs_self _)
        obtain ⟨ej, hej⟩ : ∃ ej, erI (Jp.put (jps a) ⟨what, xtx, who, yes, text⟩) = ej := ⟨_, rfl⟩
        rw [hej]
        clear h17 b17 d0 d1 d2 d3 d4 dz0 dz1 dz2 dz3 dz4 dlt dlu hej B16
        go_wp2_with fail
        refine (rjsame_any A16 A17 jl16 jl17 c16 c17 n16 n17 w17 H16.out.1 H17.out.1 J16.out H17.out.2.1 (by omega)).mono ?_
        rintro e w18 ⟨rfl, b18⟩
        have B18 := Lib.hid (B17.out.trans (b18.mono B17.out.size))
        rw [HQ2.out]
        clear b18 B17
        go_wp2
        go_roundw
        case rel => exact ⟨k + 1, by omega, by go_num, B18⟩
        case measure => simp [intOf]; omega
      · obtain rfl : k = nl := by omega
        have BX := BR
        go_wp2_with fail
        refine (awake_any _).mono ?_
        rintro e w9 ⟨rfl, b9⟩
        have B9 := Lib.hid (BX.out.trans (b9.mono BX.out.size))
        clear b9
        go_wp2
        go_ret
        exact ⟨rfl, B9.out⟩
  | some i =>
    simp only [fndI, Option.getD_some, Option.isSome_some]
    have h0i : (0 : Int) ≤ (i : Int) := by omega
    go_wp2_with fail
    refine (jshut_any B a ca na w11 HNA.out (HA.out.to B11.out) (by omega)).mono ?_
    intro e w13 h13
    obtain ⟨A13, n13, c13, rl13, rfl, b13, h13⟩ := h13.form HJF.out
    have B13 := Lib.hid (B11.out.trans (b13.mono B11.out.size))
    clear b13 B11
    go_wp2_with fail
    refine (rjshut_any B a ca na w13 HNA.out (HA.out.to B13.out) (by omega)).mono ?_
    intro e w14 h14
    obtain ⟨A14, n14, c14, rl14, rfl, b14, h14⟩ := h14.form HJF.out
    have B14 := Lib.hid (B13.out.trans (b14.mono B13.out.size))
    have R13 := Lib.hid (h13.out.2.2.to b14)
    have HSQ : Hid (Nr.eqs (rl13.map Rc.p) (rl14.map Rc.p) = true) := Lib.hid (by rw [h13.out.1, h14.out.1]; exact (Nr.eqs_iff _ _).2 rfl)
    have hn13 : n13 ≤ 80 := by
      have h := congrArg List.length h13.out.1
      have h' := Jp.shut_length (jps a)
      rw [List.length_map, h13.out.2.1] at h
      rw [jps, List.length_map, HNA.out] at h'
      rw [← jps] at h'
      omega
    clear b14 B13
    go_wp2_with fail
    refine (all_any A13 A14 rl13 rl14 c13 c14 n13 n14 w14 h13.out.2.1 h14.out.2.1 R13.out h14.out.2.2 (by omega)).mono ?_
    rintro e w15 ⟨rfl, b15⟩
    rw [HSQ.out]
    have B15 := Lib.hid (B14.out.trans (b15.mono B14.out.size))
    clear b15 B14
    go_wp2
    obtain ⟨W0, hW0⟩ : ∃ W0, W0 = w15 := ⟨_, rfl⟩
    go_loopw [101] (fun i wr => ∃ k : Nat, k ≤ nl ∧ i = .int .i64 (k : Int) ∧ Hid (Below w.heap.size w wr)) (fun i _ => nl - (intOf i).toNat)
    case atStart => exact ⟨0, by omega, rfl, B15⟩
    case round =>
      rename World => wr
      obtain ⟨k, hk, rfl, BR⟩ := hrel
      by_cases hlt : k < nl
      · obtain ⟨g1, o1, x, rfl, hg1, hx, hxo, hx0, hx1, hx2, hx3, hx4⟩ := (HL.out.to BR.out).at_ (k := k) (by rw [HNL.out]; exact hlt)
        have hltI : (k : Int) < (nl : Int) := by omega
        have h0I : (0 : Int) ≤ (k : Int) := by omega
        have HXT : Hid (x.p.text.length ≤ 300) := Lib.hid (LT1.out.lt x (List.mem_of_getElem? hx))
        have HXO := Lib.hid hxo
        obtain ⟨⟨what, xtx, who, yes, text⟩, XA, xc⟩ := x
        dsimp only at hx0 hx1 hx2 hx3 hx4 HXT
        obtain ⟨m, hm⟩ : ∃ m, text.length = m := ⟨_, rfl⟩
        have HM := Lib.hid hm
        rw [hm] at hx4 HXT
        clear hx hxo hm
        go_upto_region 17 with fail
        obtain ⟨V, hV⟩ : ∃ V, wr.alloc (.cells #[.int .u8 (what : Int), .int .u32 (xtx : Int), .int .u8 (who : Int), .bool yes, .slice XA m xc] 31) = V := ⟨_, rfl⟩
        obtain ⟨gv, hgv⟩ : ∃ gv, wr.heap.size = gv := ⟨_, rfl⟩
        have RV : Hid (RowAt V gv 31 (rcV what xtx who yes XA m xc)) := Lib.hid (by rw [← hV, ← hgv]; exact RowAt.new _ _ _)
        have bV : Below wr.heap.size wr V := by rw [← hV]; exact bel_alloc (Below.refl _ _) _
        rw [hV]
        have BV : Hid (Below w.heap.size w V) := Lib.hid (BR.out.trans (bV.mono BR.out.size))
        have XV : Hid (RcOk V V.heap.size ⟨⟨what, xtx, who, yes, text⟩, XA, xc⟩) := Lib.hid ((HXO.out.below bV).more bV.size)
        have HNL2 : Hid (XA = none → xc = 0) := Lib.hid (And.left (show _ ∧ _ from HXO.out.nl))
        rw [hgv]
        clear hV hgv bV hx0 hx1 hx2 hx3 hx4
        have dlt : gv < (V).heap.size := RV.out.lt
        have dlu : gv < (V).heap.size + 1 := Nat.lt_succ_of_lt RV.out.lt
        have d0 : (V).cell? ⟨gv, 0, none⟩ = some (.int .u8 (what : Int)) := RV.out.cells 0
        have dz0 : (V).frozen? ⟨gv, 0, none⟩ = false := RV.out.frozen 0
        have d1 : (V).cell? ⟨gv, 1, none⟩ = some (.int .u32 (xtx : Int)) := RV.out.cells 1
        have dz1 : (V).frozen? ⟨gv, 1, none⟩ = false := RV.out.frozen 1
        have d2 : (V).cell? ⟨gv, 2, none⟩ = some (.int .u8 (who : Int)) := RV.out.cells 2
        have dz2 : (V).frozen? ⟨gv, 2, none⟩ = false := RV.out.frozen 2
        have d3 : (V).cell? ⟨gv, 3, none⟩ = some (.bool yes) := RV.out.cells 3
        have dz3 : (V).frozen? ⟨gv, 3, none⟩ = false := RV.out.frozen 3
        have d4 : (V).cell? ⟨gv, 4, none⟩ = some (.slice XA m xc) := RV.out.cells 4
        have dz4 : (V).frozen? ⟨gv, 4, none⟩ = false := RV.out.frozen 4
        go_wp2_with fail
        (with_reducible refine (jadd_any B na ca a what xtx who yes text XA m xc V (HA.out.to BV.out) HNA.out HM.out XV.out.sq XV.out.fit HNL2.out HSR.out (by omega) (by have := HXT.out; omega) (fun y hy => Nat.le_trans (LT1.out.jt y hy) (by decide))).mono ?_)
        intro e w16 h16
        obtain ⟨A16, n16, c16, jl16, rfl, b16, H16⟩ := h16.any
        have B16 := Lib.hid (BV.out.trans (b16.mono BV.out.size))
        have R16 := Lib.hid (RV.out.to b16)
        have X16 := Lib.hid ((XV.out.below b16).more b16.size)
        clear h16 b16 d0 d1 d2 d3 d4 dz0 dz1 dz2 dz3 dz4 dlt dlu XV RV BV
        have dlt : gv < (w16).heap.size := R16.out.lt
        have dlu : gv < (w16).heap.size + 1 := Nat.lt_succ_of_lt R16.out.lt
        have d0 : (w16).cell? ⟨gv, 0, none⟩ = some (.int .u8 (what : Int)) := R16.out.cells 0
        have dz0 : (w16).frozen? ⟨gv, 0, none⟩ = false := R16.out.frozen 0
        have d1 : (w16).cell? ⟨gv, 1, none⟩ = some (.int .u32 (xtx : Int)) := R16.out.cells 1
        have dz1 : (w16).frozen? ⟨gv, 1, none⟩ = false := R16.out.frozen 1
        have d2 : (w16).cell? ⟨gv, 2, none⟩ = some (.int .u8 (who : Int)) := R16.out.cells 2
        have dz2 : (w16).frozen? ⟨gv, 2, none⟩ = false := R16.out.frozen 2
        have d3 : (w16).cell? ⟨gv, 3, none⟩ = some (.bool yes) := R16.out.cells 3
        have dz3 : (w16).frozen? ⟨gv, 3, none⟩ = false := R16.out.frozen 3
        have d4 : (w16).cell? ⟨gv, 4, none⟩ = some (.slice XA m xc) := R16.out.cells 4
        have dz4 : (w16).frozen? ⟨gv, 4, none⟩ = false := R16.out.frozen 4
        go_wp2_with fail
        (with_reducible refine (rjadd_any B na ca a what xtx who yes text XA m xc w16 (HA.out.to B16.out) HNA.out HM.out X16.out HSR.out (by omega)).mono ?_)
        intro e w17 h17
        obtain ⟨A17, n17, c17, jl17, rfl, b17, H17⟩ := h17.any
        have B17 := Lib.hid (B16.out.trans (b17.mono B16.out.size))
        have J16 := Lib.hid (H16.out.2.1.to b17)
        have HLA : Hid ((jps a).length ≤ 80) := Lib.hid (by rw [jps, List.length_map, HNA.out]; exact h80a)
        have hn16 : n16 ≤ 81 := put_len H16.out.2.2 H16.out.1 HLA.out
        have HQ2 : Hid (Jp.eqs (jps jl16) (jps jl17) = true) := Lib.hid (by rw [H16.out.2.2, H17.out.2.2]; exact Jp.eqs_self _)
        obtain ⟨ej, hej⟩ : ∃ ej, erI (Jp.put (jps a) ⟨what, xtx, who, yes, text⟩) = ej := ⟨_, rfl⟩
        rw [hej]
        clear h17 b17 d0 d1 d2 d3 d4 dz0 dz1 dz2 dz3 dz4 dlt dlu hej B16
        go_wp2_with fail
        refine (rjsame_any A16 A17 jl16 jl17 c16 c17 n16 n17 w17 H16.out.1 H17.out.1 J16.out H17.out.2.1 (by omega)).mono ?_
        rintro e w18 ⟨rfl, b18⟩
        have B18 := Lib.hid (B17.out.trans (b18.mono B17.out.size))
        rw [HQ2.out]
        clear b18 B17
        go_wp2
        go_roundw
        case rel => exact ⟨k + 1, by omega, by go_num, B18⟩
        case measure => simp [intOf]; omega
      · obtain rfl : k = nl := by omega
        have BX := BR
        go_wp2_with fail
        refine (awake_any _).mono ?_
        rintro e w9 ⟨rfl, b9⟩
        have B9 := Lib.hid (BX.out.trans (b9.mono BX.out.size))
        clear b9
        go_wp2
        go_ret
        exact ⟨rfl, B9.out⟩
end Go.Proofs.Ytegmeodmjaijnaa
