/- Layer 23: the walk of LedgerShut. -/
import Derived.Test.YtegmeodmjaijnaaLgFit
namespace Go.Proofs.Ytegmeodmjaijnaa
open Go.RowKit
set_option linter.unusedVariables false
set_option linter.unusedSimpArgs false
attribute [local go_sem] Later.cell Later.frozen setCell_twice
namespace Jp
def cl (j : Jp) : Jp := if j.st = 1 then ⟨j.tx, j.who, j.text, 3⟩ else j
theorem cl_tx (j : Jp) : (cl j).tx = j.tx := by unfold cl; split <;> rfl
theorem set_at {P R : List Jp} {a b : Jp} : (P ++ a :: R).set P.length b = P ++ b :: R := by
  rw [List.set_append_right _ _ (Nat.le_refl _), Nat.sub_self]
  rfl
theorem put_end {L : List Jp} {i : Nat} {j : Jp} {what : Nat} {yes : Bool} (hs : Sorted L) (hj : L[i]? = some j) (hr : (Nr.mk what j.tx 0 yes []).right = true) (h1 : what ≠ 1) (h2 : what ≠ 2) : put L ⟨what, j.tx, 0, yes, []⟩ = match step what yes j.st with | none => none | some s => some (L.set i ⟨j.tx, j.who, j.text, s⟩) := by
  have h := put_other (l := L) (x := ⟨what, j.tx, 0, yes, []⟩) hr h1 h2
  rw [h]
  simp only
  rw [find_here hs hj rfl]
  simp only
  rw [hj]
  rfl
theorem shut_makes : ∀ (R P : List Jp), Sorted (P.map cl ++ R) → makeFrom (P.map cl ++ R) (shut R) = some ((P ++ R).map cl)
  | [], P, _ => by simp [shut, makeFrom]
  | j :: R, P, hs => by
    have e : (P.map cl ++ cl j :: R) = ((P ++ [j]).map cl ++ R) := by simp
    have hs2 : Sorted ((P ++ [j]).map cl ++ R) := by
      refine sorted_tx ?_ hs
      simp [cl_tx]
    have ih := shut_makes R (P ++ [j]) hs2
    by_cases h1 : j.st = 1
    · have hsh : shut (j :: R) = shutOne j :: shut R := by simp [shut, List.filter_cons, h1]
      rw [hsh, makeFrom]
      have hp : put (P.map cl ++ j :: R) (shutOne j) = some (P.map cl ++ cl j :: R) := by
        have hg : (P.map cl ++ j :: R)[P.length]? = some j := by rw [List.getElem?_append_right (by simp)]; simp
        have := put_end (what := 3) (yes := false) hs hg (by simp [Nr.right]) (by decide) (by decide)
        rw [show shutOne j = ⟨3, j.tx, 0, false, []⟩ from rfl, this, h1]
        have h2 : (P.map cl ++ j :: R).set P.length ⟨j.tx, j.who, j.text, 3⟩ = P.map cl ++ ⟨j.tx, j.who, j.text, 3⟩ :: R := by
          have := set_at (P := P.map cl) (R := R) (a := j) (b := ⟨j.tx, j.who, j.text, 3⟩)
          rwa [List.length_map] at this
        have h3 : cl j = ⟨j.tx, j.who, j.text, 3⟩ := by unfold cl; rw [if_pos h1]
        rw [h3, ← h2]
        rfl
      rw [hp]
      simp only
      rw [e, ih]
      simp
    · have hsh : shut (j :: R) = shut R := by simp [shut, List.filter_cons, h1]
      have h3 : cl j = j := by unfold cl; rw [if_neg h1]
      rw [hsh]
      rw [← h3] at hs
      rw [show P.map cl ++ j :: R = P.map cl ++ cl j :: R by rw [h3], e, ih]
      simp
theorem shut_makes' {L : List Jp} (hs : Sorted L) : makeFrom L (shut L) = some (L.map cl) := by
  have := shut_makes L [] (by simpa using hs)
  simpa using this
theorem makeFrom_take {L M : List Jp} {r : List Nr} {k : Nat} {x : Nr} {J : List Jp} (h : makeFrom L r = some M) (hx : r[k]? = some x) (hk : makeFrom L (r.take k) = some J) : ∃ J', put J x = some J' ∧ makeFrom L (r.take (k + 1)) = some J' := by
  have h1 : makeFrom L (r.take (k + 1)) = put J x := by
    rw [List.take_add_one, hx, Option.toList, makeFrom_append, hk, Option.bind_some, makeFrom]
    cases put J x <;> rfl
  cases hp : put J x with
  | some J' => exact ⟨J', rfl, by rw [h1, hp]⟩
  | none =>
    rw [hp] at h1
    rw [← List.take_append_drop (k + 1) r, makeFrom_append, h1] at h
    cases h
theorem shut_cl (L : List Jp) : shut (L.map cl) = [] := by
  unfold shut
  rw [List.map_eq_nil_iff, List.filter_eq_nil_iff]
  intro j hj
  obtain ⟨i, _, rfl⟩ := List.mem_map.1 hj
  unfold cl
  split <;> simp_all
theorem shut_get {L : List Jp} {k : Nat} {x : Nr} (h : (shut L)[k]? = some x) : ∃ tx, x = ⟨3, tx, 0, false, []⟩ := by
  obtain ⟨j, _, rfl⟩ := List.mem_map.1 (List.mem_of_getElem? h)
  exact ⟨j.tx, rfl⟩
theorem end_twice {L : List Jp} {i s : Nat} {j : Jp} (hs : Sorted L) (hj : L[i]? = some j) (h1 : step 4 false j.st = some s) (h2 : step 4 false s = none) : put L ⟨4, j.tx, 0, false, []⟩ = some (L.set i ⟨j.tx, j.who, j.text, s⟩) ∧ put (L.set i ⟨j.tx, j.who, j.text, s⟩) ⟨4, j.tx, 0, false, []⟩ = none := by
  have hi := (List.getElem?_eq_some_iff.1 hj).1
  constructor
  · rw [put_end hs hj (by simp [Nr.right]) (by decide) (by decide), h1]
  · have hs2 : Sorted (L.set i ⟨j.tx, j.who, j.text, s⟩) := sorted_tx (set_tx hj s).symm hs
    have hj2 : (L.set i ⟨j.tx, j.who, j.text, s⟩)[i]? = some ⟨j.tx, j.who, j.text, s⟩ := by rw [List.getElem?_set_self hi]
    have := put_end (what := 4) (yes := false) hs2 hj2 (by simp [Nr.right]) (by decide) (by decide)
    rw [this, h2]
theorem end_never {L : List Jp} {i : Nat} {j : Jp} (hs : Sorted L) (hj : L[i]? = some j) (h1 : step 4 false j.st = none) : put L ⟨4, j.tx, 0, false, []⟩ = none := by
  rw [put_end hs hj (by simp [Nr.right]) (by decide) (by decide), h1]
end Jp
theorem jend_any (A : Option Addr) (n c : Nat) (l : List Jb) (tx : Nat) (w : World) (hJ : Jbs w w.heap.size A l) (hln : l.length = n) (htx : tx < 4294967296) (hs : Jp.Sorted (jps l)) (hn : n ≤ 90000) (hsh : ∀ y ∈ l, y.p.text.length ≤ 1000000) :
    Calls Try.prog 13 #[.slice A n c, .agg #[.int .u8 4, .int .u32 (tx : Int), .int .u8 0, .bool false, .slice none 0 0]] w (LgP w.heap.size (Jp.put (jps l) ⟨4, tx, 0, false, []⟩) w) :=
  jadd_any A n c l 4 tx 0 false [] none 0 0 w hJ hln rfl Sq.nil ⟨by simp, htx, by simp, by simp⟩ (fun _ => rfl) hs hn (by decide) hsh
set_option maxRecDepth 100000 in
set_option maxHeartbeats 4000000 in
theorem ledgerShut_any (A : Option Addr) (l : List Rc) (cl nl : Nat) (w : World) (hnl : l.length = nl) (hl : Rcs w w.heap.size A l) :
    Calls Try.prog 3 #[.slice A nl cl] w fun e w' => e = .returned (.bool true) ∧ Below w.heap.size w w' := by
  have HL := Lib.hid hl
  have HNL := Lib.hid hnl
  clear hl hnl
  go_enter Try.func3, Try.ntmps3
  go_wp2_with fail
  refine (light_any A none l [] cl 0 nl 0 w HNL.out rfl HL.out Jbs.nil).mono ?_
  rintro e w1 ⟨r1, rfl, b1, h1⟩
  have B1 := Lib.hid b1
  clear b1
  cases r1
  · have BX := B1
    go_wp2_with fail
    refine (awake_any _).mono ?_
    rintro e w9 ⟨rfl, b9⟩
    have B9 := Lib.hid (BX.out.trans (b9.mono BX.out.size))
    clear b9
    go_wp2
    go_ret
    exact ⟨rfl, B9.out⟩
  have LT1 := Lib.hid (h1.out rfl)
  have h80l : nl ≤ 80 := by rw [← HNL.out]; exact LT1.out.ln
  clear h1
  go_wp2_with fail
  refine (fitting_shut A nl cl l w1 (HL.out.to B1.out) HNL.out h80l LT1.out.lt).mono ?_
  intro e w2 h2
  obtain ⟨A2, n2, c2, A3, n3, c3, fl, jl, rfl, b2, h2⟩ := h2
  have B2 := Lib.hid (B1.out.trans (b2.mono B1.out.size))
  have HJ := Lib.hid h2.out.2.2.1
  have JJ := Lib.hid h2.out.2.2.2.2.1.jbs
  have HJL := Lib.hid h2.out.2.2.2.2.1.len
  have hn3 : n3 ≤ 80 := Nat.le_trans h2.out.2.2.2.2.2.2.1 (by rw [HNL.out]; exact h80l)
  obtain ⟨L, hLL⟩ : ∃ L, jps jl = L := ⟨_, rfl⟩
  have HL2 := Lib.hid hLL
  have HRT : Hid (Jp.Rt L) := Lib.hid (by rw [← hLL, HJ.out]; exact Jp.fits_rt _)
  have HST : Hid (Jp.Sorted L) := Lib.hid (And.left (show _ ∧ _ from HRT.out))
  have HJF : Hid (∀ j ∈ jps jl, j.tx < 4294967296) := Lib.hid (fun j hj => by
    obtain ⟨y, hy, rfl⟩ := List.mem_map.1 hj
    exact ((JJ.out.ok y hy).fit).tx)
  have HMK := Lib.hid (Jp.shut_makes' HST.out)
  have HLN : Hid (L.length = n3) := Lib.hid (by rw [← hLL, jps, List.length_map, HJL.out])
  clear b2 h2 B1 hLL HJ
  go_wp2_with fail
  refine (jshut_any A3 jl c3 n3 w2 HJL.out JJ.out (by omega)).mono ?_
  intro e w3 h3
  obtain ⟨A4, n4, c4, rl, rfl, b3, h3⟩ := h3.form HJF.out
  have B3 := Lib.hid (B2.out.trans (b3.mono B2.out.size))
  have HRL : Hid (rl.map Rc.p = Jp.shut L) := Lib.hid (by rw [← HL2.out]; exact h3.out.1)
  have HRN := Lib.hid h3.out.2.1
  have RR := Lib.hid h3.out.2.2
  have JJ3 := Lib.hid (JJ.out.to b3)
  have hn4 : n4 ≤ 80 := by
    have h := Jp.shut_length L
    rw [← HRL.out, List.length_map, HRN.out, HLN.out] at h
    omega
  clear b3 h3 B2 JJ
  go_wp2
  go_loopw [6, 35] (fun v i wr => ∃ (k : Nat) (A' : Option Addr) (n' c' : Nat) (jn : List Jb), k ≤ n4 ∧ i = .int .i64 k ∧ v = .slice A' n' c' ∧ Hid (Jbs wr wr.heap.size A' jn ∧ jn.length = n' ∧ Jp.makeFrom L ((Jp.shut L).take k) = some (jps jn) ∧ Below w3.heap.size w3 wr)) (fun _ i _ => n4 - (intOf i).toNat)
  case atStart => exact ⟨0, A3, n3, c3, jl, by omega, rfl, rfl, Lib.hid ⟨JJ3.out, HJL.out, by rw [HL2.out]; rfl, Below.refl _ _⟩⟩
  case round =>
    rename World => wr
    obtain ⟨k, A', n', c', jn, hk, rfl, rfl, hh⟩ := hrel
    have JN := Lib.hid hh.out.1
    have HNN := Lib.hid hh.out.2.1
    have HMN := Lib.hid hh.out.2.2.1
    have BE := Lib.hid hh.out.2.2.2
    have HRTN : Hid (Jp.Rt (jps jn)) := Lib.hid (Jp.makeFrom_rt _ HRT.out HMN.out)
    have HSTN : Hid (Jp.Sorted (jps jn)) := Lib.hid (And.left (show _ ∧ _ from HRTN.out))
    have hshj : Hid (∀ y ∈ jn, y.p.text.length ≤ 1000000) := Lib.hid (fun y hy => by have := ((And.right (show _ ∧ _ from HRTN.out)) y.p (List.mem_map_of_mem hy)).2.2.1; omega)
    have hn' : n' ≤ 200 := by
      have h := Jp.makeFrom_length _ HMN.out
      rw [jps, List.length_map, HNN.out, List.length_take, HLN.out] at h
      omega
    clear hh
    by_cases hlt : k < n4
    · obtain ⟨g1, o1, x, rfl, hg1, hx, hxo, hx0, hx1, hx2, hx3, hx4⟩ := (RR.out.to BE.out).at_ (k := k) (by rw [HRN.out]; exact hlt)
      have hltI : (k : Int) < (n4 : Int) := by omega
      have h0I : (0 : Int) ≤ (k : Int) := by omega
      have HX : Hid ((Jp.shut L)[k]? = some x.p) := Lib.hid (by rw [← HRL.out, List.getElem?_map, hx]; rfl)
      have HXO := Lib.hid hxo
      obtain ⟨⟨what, tx, who, yes, text⟩, XA, xc⟩ := x
      dsimp only at hx0 hx1 hx2 hx3 hx4 HX
      obtain ⟨M, hM1, hM2⟩ := Jp.makeFrom_take HMK.out HX.out HMN.out
      have HM1 := Lib.hid hM1
      have HM2 := Lib.hid hM2
      obtain ⟨m, hm⟩ : ∃ m, text.length = m := ⟨_, rfl⟩
      have HM := Lib.hid hm
      have hm0 : m ≤ 0 := by
        obtain ⟨t, ht⟩ := Jp.shut_get HX.out
        rw [Nr.mk.injEq] at ht
        rw [← hm, ht.2.2.2.2]
        exact Nat.le_refl _
      rw [hm] at hx4
      clear hx hxo hm hM1 hM2
      go_upto_region 10 with fail
      obtain ⟨V, hV⟩ : ∃ V, wr.alloc (.cells #[.int .u8 (what : Int), .int .u32 (tx : Int), .int .u8 (who : Int), .bool yes, .slice XA m xc] 31) = V := ⟨_, rfl⟩
      obtain ⟨gv, hgv⟩ : ∃ gv, wr.heap.size = gv := ⟨_, rfl⟩
      have RV : Hid (RowAt V gv 31 (rcV what tx who yes XA m xc)) := Lib.hid (by rw [← hV, ← hgv]; exact RowAt.new _ _ _)
      have bV : Below wr.heap.size wr V := by rw [← hV]; exact bel_alloc (Below.refl _ _) _
      rw [hV]
      have JV := Lib.hid (JN.out.to bV)
      have BV : Hid (Below w3.heap.size w3 V) := Lib.hid (BE.out.trans (bV.mono BE.out.size))
      have XV : Hid (RcOk V V.heap.size ⟨⟨what, tx, who, yes, text⟩, XA, xc⟩) := Lib.hid ((HXO.out.below bV).more bV.size)
      have HNL2 : Hid (XA = none → xc = 0) := Lib.hid (And.left (show _ ∧ _ from HXO.out.nl))
      rw [hgv]
      clear hV hgv bV hx0 hx1 hx2 hx3 hx4
      have dlt : gv < (V).heap.size := RV.out.lt
      have dlu : gv < (V).heap.size + 1 := Nat.lt_succ_of_lt RV.out.lt
      have d0 : (V).cell? ⟨gv, 0, none⟩ = some (.int .u8 (what : Int)) := RV.out.cells 0
      have dz0 : (V).frozen? ⟨gv, 0, none⟩ = false := RV.out.frozen 0
      have d1 : (V).cell? ⟨gv, 1, none⟩ = some (.int .u32 (tx : Int)) := RV.out.cells 1
      have dz1 : (V).frozen? ⟨gv, 1, none⟩ = false := RV.out.frozen 1
      have d2 : (V).cell? ⟨gv, 2, none⟩ = some (.int .u8 (who : Int)) := RV.out.cells 2
      have dz2 : (V).frozen? ⟨gv, 2, none⟩ = false := RV.out.frozen 2
      have d3 : (V).cell? ⟨gv, 3, none⟩ = some (.bool yes) := RV.out.cells 3
      have dz3 : (V).frozen? ⟨gv, 3, none⟩ = false := RV.out.frozen 3
      have d4 : (V).cell? ⟨gv, 4, none⟩ = some (.slice XA m xc) := RV.out.cells 4
      have dz4 : (V).frozen? ⟨gv, 4, none⟩ = false := RV.out.frozen 4
      go_wp2_with fail
      (with_reducible refine (jadd_any A' n' c' jn what tx who yes text XA m xc V JV.out HNN.out HM.out XV.out.sq XV.out.fit HNL2.out HSTN.out (by omega) (by omega) hshj.out).mono ?_)
      intro e w4 h4
      obtain ⟨A5, n5, c5, jl5, rfl, b4, h5, J5⟩ := h4.yes_form HM1.out
      have B4 : Hid (Below w3.heap.size w3 w4) := Lib.hid (BV.out.trans (b4.mono BV.out.size))
      have H5 := Lib.hid h5
      clear h4 b4 h5 d0 d1 d2 d3 d4 dz0 dz1 dz2 dz3 dz4 dlt dlu JV BV RV XV
      go_wp2
      go_roundw
      case rel => exact ⟨k + 1, A5, n5, c5, jl5, by omega, by go_num, rfl, Lib.hid ⟨J5.out.jbs, J5.out.len, by rw [HM2.out, H5.out], B4.out⟩⟩
      case measure => simp [intOf]; omega
    · obtain rfl : k = n4 := by omega
      have HFIN : Hid (jps jn = L.map Jp.cl) := Lib.hid (by
        have h := HMN.out
        rw [List.take_of_length_le (by rw [← HRL.out, List.length_map, HRN.out]; exact Nat.le_refl _), HMK.out] at h
        exact (Option.some.inj h).symm)
      obtain rfl : n' = n3 := by
        have h := congrArg List.length HFIN.out
        rw [jps, List.length_map, List.length_map, HNN.out, HLN.out] at h
        exact h
      have HJNF : Hid (∀ j ∈ jps jn, j.tx < 4294967296) := Lib.hid (fun j hj => by
        obtain ⟨y, hy, rfl⟩ := List.mem_map.1 hj
        exact ((JN.out.ok y hy).fit).tx)
      have JJR := Lib.hid (JJ3.out.to BE.out)
      have BR : Hid (Below w.heap.size w wr) := Lib.hid (B3.out.trans (BE.out.mono B3.out.size))
      clear hlt
      go_wp2_with fail
      refine (jshut_any A' jn c' n' wr HNN.out JN.out (by omega)).mono ?_
      intro e w6 h6
      obtain ⟨A6, n6, c6, rl6, rfl, b6, h6⟩ := h6.form HJNF.out
      obtain rfl : n6 = 0 := by
        have h := h6.out.1
        rw [HFIN.out, Jp.shut_cl] at h
        have h' := congrArg List.length h
        rw [List.length_map, h6.out.2.1] at h'
        exact h'
      have B6 := Lib.hid (BR.out.trans (b6.mono BR.out.size))
      have J6 := Lib.hid (JN.out.to b6)
      have JJ6 := Lib.hid (JJR.out.to b6)
      clear b6 h6 JN JJR BE BR HMN
      go_wp2
      go_loopw [62] (fun i wq => ∃ q : Nat, q ≤ n' ∧ i = .int .i64 (q : Int) ∧ Hid (Below w6.heap.size w6 wq)) (fun i _ => n' - (intOf i).toNat)
      case atStart => exact ⟨0, by omega, rfl, Lib.hid (Below.refl _ _)⟩
      case round =>
        rename World => wq
        obtain ⟨q, hq, rfl, BQ⟩ := hrel
        by_cases hlt : q < n'
        · obtain ⟨g1, o1, y, rfl, hg1, hy, hyo, hy0, hy1, hy2, hy3⟩ := (J6.out.to BQ.out).at_ (k := q) (by rw [HNN.out]; exact hlt)
          obtain ⟨g2, o2, j, rfl, hg2, hj, hjo, hj0, hj1, hj2, hj3⟩ := (JJ6.out.to BQ.out).at_ (k := q) (by rw [HJL.out]; exact hlt)
          have hltI : (q : Int) < (n' : Int) := by omega
          have h0I : (0 : Int) ≤ (q : Int) := by omega
          have HY : Hid ((jps jn)[q]? = some y.p) := Lib.hid (by rw [jps, List.getElem?_map, hy]; rfl)
          have HC : Hid (y.p = Jp.cl j.p) := Lib.hid (by
            have h := HY.out
            rw [HFIN.out, ← HL2.out, jps, List.map_map, List.getElem?_map, hj] at h
            exact (Option.some.inj h).symm)
          have HJR : Hid (1 ≤ j.p.st ∧ j.p.st ≤ 5) := Lib.hid (And.right (And.right (And.right ((And.right (show _ ∧ _ from HRT.out)) j.p (by rw [← HL2.out]; exact List.mem_map_of_mem (List.mem_of_getElem? hj))))))
          have HYT : Hid (y.p.tx < 4294967296) := Lib.hid hyo.fit.tx
          have HJW : Hid (Jbs wq wq.heap.size (some ⟨g1, o1, none⟩) jn) := Lib.hid (J6.out.to BQ.out)
          have BW : Hid (Below w.heap.size w wq) := Lib.hid (B6.out.trans (BQ.out.mono B6.out.size))
          obtain ⟨⟨ytx, ywho, ytext, yst⟩, YA, yc⟩ := y
          obtain ⟨⟨jtx, jwho, jtext, jst⟩, JA, jc⟩ := j
          dsimp only at hy0 hy1 hy2 hy3 hj0 hj1 hj2 hj3 HC HY HJR HYT
          have hyst : yst = (if jst = 1 then 3 else jst) := by
            have h := congrArg Jp.st HC.out
            unfold Jp.cl at h
            split at h <;> simp_all
          have hjr := HJR.out
          have hgr2 : g2 < wq.heap.size := hg2
          clear hy hj hyo hjo HC HJR
          by_cases h1 : jst = 1
          · subst h1
            obtain rfl : yst = 3 := by rw [hyst]; rfl
            clear hyst hjr
            go_upto_region 24 with fail
            obtain ⟨V, hV⟩ : ∃ V, (wq.alloc (.cells #[.int .u32 (ytx : Int), .int .u8 (ywho : Int), .slice YA ytext.length yc, .int .u8 3] 38)).alloc (.cells #[.int .u8 4, .int .u32 (ytx : Int), .int .u8 0, .bool false, .slice none 0 0] 31) = V := ⟨_, rfl⟩
            obtain ⟨gv, hgv⟩ : ∃ gv, wq.heap.size + 1 = gv := ⟨_, rfl⟩
            obtain ⟨gu, hgu⟩ : ∃ gu, wq.heap.size = gu := ⟨_, rfl⟩
            have RV : Hid (RowAt V gv 31 (rcV 4 ytx 0 false none 0 0)) := Lib.hid (by rw [← hV, ← hgv]; exact RowAt.new' _ _ _ _ (by simp))
            have RU : Hid (RowAt V gu 38 (jbV ytx ywho YA ytext.length yc 3)) := Lib.hid (by rw [← hV, ← hgu]; exact (RowAt.new wq _ _).alloc _)
            have bV : Below wq.heap.size wq V := by rw [← hV]; exact bel_alloc (bel_alloc (Below.refl _ _) _) _
            rw [hV]
            have JV := Lib.hid (HJW.out.to bV)
            have BV := Lib.hid (BW.out.trans (bV.mono BW.out.size))
            have BQV : Hid (Below w6.heap.size w6 V) := Lib.hid (BQ.out.trans (bV.mono BQ.out.size))
            rw [hgv, hgu]
            clear hV hgv hgu bV hy0 hy1 hy2 hy3 hj0 hj1 hj2 hj3
            have dlt : gv < (V).heap.size := RV.out.lt
            have dlu : gv < (V).heap.size + 1 := Nat.lt_succ_of_lt RV.out.lt
            have d0 : (V).cell? ⟨gv, 0, none⟩ = some (.int .u8 4) := RV.out.cells 0
            have dz0 : (V).frozen? ⟨gv, 0, none⟩ = false := RV.out.frozen 0
            have d1 : (V).cell? ⟨gv, 1, none⟩ = some (.int .u32 (ytx : Int)) := RV.out.cells 1
            have dz1 : (V).frozen? ⟨gv, 1, none⟩ = false := RV.out.frozen 1
            have d2 : (V).cell? ⟨gv, 2, none⟩ = some (.int .u8 0) := RV.out.cells 2
            have dz2 : (V).frozen? ⟨gv, 2, none⟩ = false := RV.out.frozen 2
            have d3 : (V).cell? ⟨gv, 3, none⟩ = some (.bool false) := RV.out.cells 3
            have dz3 : (V).frozen? ⟨gv, 3, none⟩ = false := RV.out.frozen 3
            have d4 : (V).cell? ⟨gv, 4, none⟩ = some (.slice none 0 0) := RV.out.cells 4
            have dz4 : (V).frozen? ⟨gv, 4, none⟩ = false := RV.out.frozen 4
            go_wp2_with fail
            (with_reducible refine (jend_any (some ⟨g1, o1, none⟩) n' c' jn ytx V JV.out HNN.out HYT.out HSTN.out (by omega) hshj.out).mono ?_)
            intro e w7 h7
            have HE2 := Lib.hid (Jp.end_twice (s := 5) HSTN.out HY.out rfl rfl)
            obtain ⟨A7, n7, c7, jl7, rfl, b7, h7', J7⟩ := h7.yes_form HE2.out.1
            have H7 := Lib.hid h7'
            have hn7 : n7 ≤ 80 := by
              have h := congrArg List.length H7.out
              rw [jps, List.length_map, J7.out.len, List.length_set, jps, List.length_map, HNN.out] at h
              omega
            have HRT7 : Hid (Jp.Rt (jps jl7)) := Lib.hid (by rw [H7.out]; exact Jp.put_rt HRTN.out HE2.out.1)
            have HST7 : Hid (Jp.Sorted (jps jl7)) := Lib.hid (And.left (show _ ∧ _ from HRT7.out))
            have hsh7 : Hid (∀ y ∈ jl7, y.p.text.length ≤ 1000000) := Lib.hid (fun y hy => by have := ((And.right (show _ ∧ _ from HRT7.out)) y.p (List.mem_map_of_mem hy)).2.2.1; omega)
            have HN7 : Hid (Jp.put (jps jl7) ⟨4, ytx, 0, false, []⟩ = none) := Lib.hid (by rw [H7.out]; exact HE2.out.2)
            have B7 := Lib.hid (BQV.out.trans (b7.mono BQV.out.size))
            have R7 := Lib.hid (RV.out.to b7)
            have U7 := Lib.hid (RU.out.to b7)
            clear h7 h7' b7 d0 d1 d2 d3 d4 dz0 dz1 dz2 dz3 dz4 dlt dlu
            have dlt : gv < (w7).heap.size := R7.out.lt
            have dlu : gv < (w7).heap.size + 1 := Nat.lt_succ_of_lt R7.out.lt
            have d0 : (w7).cell? ⟨gv, 0, none⟩ = some (.int .u8 4) := R7.out.cells 0
            have dz0 : (w7).frozen? ⟨gv, 0, none⟩ = false := R7.out.frozen 0
            have d1 : (w7).cell? ⟨gv, 1, none⟩ = some (.int .u32 (ytx : Int)) := R7.out.cells 1
            have dz1 : (w7).frozen? ⟨gv, 1, none⟩ = false := R7.out.frozen 1
            have d2 : (w7).cell? ⟨gv, 2, none⟩ = some (.int .u8 0) := R7.out.cells 2
            have dz2 : (w7).frozen? ⟨gv, 2, none⟩ = false := R7.out.frozen 2
            have d3 : (w7).cell? ⟨gv, 3, none⟩ = some (.bool false) := R7.out.cells 3
            have dz3 : (w7).frozen? ⟨gv, 3, none⟩ = false := R7.out.frozen 3
            have d4 : (w7).cell? ⟨gv, 4, none⟩ = some (.slice none 0 0) := R7.out.cells 4
            have dz4 : (w7).frozen? ⟨gv, 4, none⟩ = false := R7.out.frozen 4
            have ult : gu < (w7).heap.size := U7.out.lt
            have ulu : gu < (w7).heap.size + 1 := Nat.lt_succ_of_lt U7.out.lt
            have u0 : (w7).cell? ⟨gu, 0, none⟩ = some (.int .u32 (ytx : Int)) := U7.out.cells 0
            have uz0 : (w7).frozen? ⟨gu, 0, none⟩ = false := U7.out.frozen 0
            have u1 : (w7).cell? ⟨gu, 1, none⟩ = some (.int .u8 (ywho : Int)) := U7.out.cells 1
            have uz1 : (w7).frozen? ⟨gu, 1, none⟩ = false := U7.out.frozen 1
            have u2 : (w7).cell? ⟨gu, 2, none⟩ = some (.slice YA ytext.length yc) := U7.out.cells 2
            have uz2 : (w7).frozen? ⟨gu, 2, none⟩ = false := U7.out.frozen 2
            have u3 : (w7).cell? ⟨gu, 3, none⟩ = some (.int .u8 3) := U7.out.cells 3
            have uz3 : (w7).frozen? ⟨gu, 3, none⟩ = false := U7.out.frozen 3
            go_wp2_with fail
            (with_reducible refine (jend_any A7 n7 c7 jl7 ytx w7 J7.out.jbs J7.out.len HYT.out HST7.out (by omega) hsh7.out).mono ?_)
            intro e w8 h8
            obtain ⟨rfl, b8⟩ := h8.no_form HN7.out
            have B8 := Lib.hid (B7.out.trans (b8.mono B7.out.size))
            clear h8 b8 d0 d1 d2 d3 d4 dz0 dz1 dz2 dz3 dz4 dlt dlu u0 u1 u2 u3 uz0 uz1 uz2 uz3 ult ulu
            go_wp2
            go_roundw
            case rel => exact ⟨q + 1, by omega, by go_num, B8⟩
            case measure => simp [intOf]; omega
          · obtain rfl : yst = jst := by rw [hyst, if_neg h1]
            clear hyst
            obtain rfl | rfl | rfl | rfl : yst = 2 ∨ yst = 3 ∨ yst = 4 ∨ yst = 5 := by omega
            · clear h1 hjr
              go_upto_region 24 with fail
              obtain ⟨V, hV⟩ : ∃ V, (wq.alloc (.cells #[.int .u32 (ytx : Int), .int .u8 (ywho : Int), .slice YA ytext.length yc, .int .u8 2] 38)).alloc (.cells #[.int .u8 4, .int .u32 (ytx : Int), .int .u8 0, .bool false, .slice none 0 0] 31) = V := ⟨_, rfl⟩
              obtain ⟨gv, hgv⟩ : ∃ gv, wq.heap.size + 1 = gv := ⟨_, rfl⟩
              obtain ⟨gu, hgu⟩ : ∃ gu, wq.heap.size = gu := ⟨_, rfl⟩
              have RV : Hid (RowAt V gv 31 (rcV 4 ytx 0 false none 0 0)) := Lib.hid (by rw [← hV, ← hgv]; exact RowAt.new' _ _ _ _ (by simp))
              have RU : Hid (RowAt V gu 38 (jbV ytx ywho YA ytext.length yc 2)) := Lib.hid (by rw [← hV, ← hgu]; exact (RowAt.new wq _ _).alloc _)
              have bV : Below wq.heap.size wq V := by rw [← hV]; exact bel_alloc (bel_alloc (Below.refl _ _) _) _
              rw [hV]
              have JV := Lib.hid (HJW.out.to bV)
              have BV := Lib.hid (BW.out.trans (bV.mono BW.out.size))
              have BQV : Hid (Below w6.heap.size w6 V) := Lib.hid (BQ.out.trans (bV.mono BQ.out.size))
              rw [hgv, hgu]
              clear hV hgv hgu bV hy0 hy1 hy2 hy3 hj0 hj1 hj2 hj3
              have dlt : gv < (V).heap.size := RV.out.lt
              have dlu : gv < (V).heap.size + 1 := Nat.lt_succ_of_lt RV.out.lt
              have d0 : (V).cell? ⟨gv, 0, none⟩ = some (.int .u8 4) := RV.out.cells 0
              have dz0 : (V).frozen? ⟨gv, 0, none⟩ = false := RV.out.frozen 0
              have d1 : (V).cell? ⟨gv, 1, none⟩ = some (.int .u32 (ytx : Int)) := RV.out.cells 1
              have dz1 : (V).frozen? ⟨gv, 1, none⟩ = false := RV.out.frozen 1
              have d2 : (V).cell? ⟨gv, 2, none⟩ = some (.int .u8 0) := RV.out.cells 2
              have dz2 : (V).frozen? ⟨gv, 2, none⟩ = false := RV.out.frozen 2
              have d3 : (V).cell? ⟨gv, 3, none⟩ = some (.bool false) := RV.out.cells 3
              have dz3 : (V).frozen? ⟨gv, 3, none⟩ = false := RV.out.frozen 3
              have d4 : (V).cell? ⟨gv, 4, none⟩ = some (.slice none 0 0) := RV.out.cells 4
              have dz4 : (V).frozen? ⟨gv, 4, none⟩ = false := RV.out.frozen 4
              go_wp2_with fail
              (with_reducible refine (jend_any (some ⟨g1, o1, none⟩) n' c' jn ytx V JV.out HNN.out HYT.out HSTN.out (by omega) hshj.out).mono ?_)
              intro e w7 h7
              have HE2 := Lib.hid (Jp.end_twice (s := 4) HSTN.out HY.out rfl rfl)
              obtain ⟨A7, n7, c7, jl7, rfl, b7, h7', J7⟩ := h7.yes_form HE2.out.1
              have H7 := Lib.hid h7'
              have hn7 : n7 ≤ 80 := by
                have h := congrArg List.length H7.out
                rw [jps, List.length_map, J7.out.len, List.length_set, jps, List.length_map, HNN.out] at h
                omega
              have HRT7 : Hid (Jp.Rt (jps jl7)) := Lib.hid (by rw [H7.out]; exact Jp.put_rt HRTN.out HE2.out.1)
              have HST7 : Hid (Jp.Sorted (jps jl7)) := Lib.hid (And.left (show _ ∧ _ from HRT7.out))
              have hsh7 : Hid (∀ y ∈ jl7, y.p.text.length ≤ 1000000) := Lib.hid (fun y hy => by have := ((And.right (show _ ∧ _ from HRT7.out)) y.p (List.mem_map_of_mem hy)).2.2.1; omega)
              have HN7 : Hid (Jp.put (jps jl7) ⟨4, ytx, 0, false, []⟩ = none) := Lib.hid (by rw [H7.out]; exact HE2.out.2)
              have B7 := Lib.hid (BQV.out.trans (b7.mono BQV.out.size))
              have R7 := Lib.hid (RV.out.to b7)
              have U7 := Lib.hid (RU.out.to b7)
              clear h7 h7' b7 d0 d1 d2 d3 d4 dz0 dz1 dz2 dz3 dz4 dlt dlu
              have dlt : gv < (w7).heap.size := R7.out.lt
              have dlu : gv < (w7).heap.size + 1 := Nat.lt_succ_of_lt R7.out.lt
              have d0 : (w7).cell? ⟨gv, 0, none⟩ = some (.int .u8 4) := R7.out.cells 0
              have dz0 : (w7).frozen? ⟨gv, 0, none⟩ = false := R7.out.frozen 0
              have d1 : (w7).cell? ⟨gv, 1, none⟩ = some (.int .u32 (ytx : Int)) := R7.out.cells 1
              have dz1 : (w7).frozen? ⟨gv, 1, none⟩ = false := R7.out.frozen 1
              have d2 : (w7).cell? ⟨gv, 2, none⟩ = some (.int .u8 0) := R7.out.cells 2
              have dz2 : (w7).frozen? ⟨gv, 2, none⟩ = false := R7.out.frozen 2
              have d3 : (w7).cell? ⟨gv, 3, none⟩ = some (.bool false) := R7.out.cells 3
              have dz3 : (w7).frozen? ⟨gv, 3, none⟩ = false := R7.out.frozen 3
              have d4 : (w7).cell? ⟨gv, 4, none⟩ = some (.slice none 0 0) := R7.out.cells 4
              have dz4 : (w7).frozen? ⟨gv, 4, none⟩ = false := R7.out.frozen 4
              have ult : gu < (w7).heap.size := U7.out.lt
              have ulu : gu < (w7).heap.size + 1 := Nat.lt_succ_of_lt U7.out.lt
              have u0 : (w7).cell? ⟨gu, 0, none⟩ = some (.int .u32 (ytx : Int)) := U7.out.cells 0
              have uz0 : (w7).frozen? ⟨gu, 0, none⟩ = false := U7.out.frozen 0
              have u1 : (w7).cell? ⟨gu, 1, none⟩ = some (.int .u8 (ywho : Int)) := U7.out.cells 1
              have uz1 : (w7).frozen? ⟨gu, 1, none⟩ = false := U7.out.frozen 1
              have u2 : (w7).cell? ⟨gu, 2, none⟩ = some (.slice YA ytext.length yc) := U7.out.cells 2
              have uz2 : (w7).frozen? ⟨gu, 2, none⟩ = false := U7.out.frozen 2
              have u3 : (w7).cell? ⟨gu, 3, none⟩ = some (.int .u8 2) := U7.out.cells 3
              have uz3 : (w7).frozen? ⟨gu, 3, none⟩ = false := U7.out.frozen 3
              go_wp2_with fail
              (with_reducible refine (jend_any A7 n7 c7 jl7 ytx w7 J7.out.jbs J7.out.len HYT.out HST7.out (by omega) hsh7.out).mono ?_)
              intro e w8 h8
              obtain ⟨rfl, b8⟩ := h8.no_form HN7.out
              have B8 := Lib.hid (B7.out.trans (b8.mono B7.out.size))
              clear h8 b8 d0 d1 d2 d3 d4 dz0 dz1 dz2 dz3 dz4 dlt dlu u0 u1 u2 u3 uz0 uz1 uz2 uz3 ult ulu
              go_wp2
              go_roundw
              case rel => exact ⟨q + 1, by omega, by go_num, B8⟩
              case measure => simp [intOf]; omega
            · clear h1 hjr
              go_upto_region 24 with fail
              obtain ⟨V, hV⟩ : ∃ V, (wq.alloc (.cells #[.int .u32 (ytx : Int), .int .u8 (ywho : Int), .slice YA ytext.length yc, .int .u8 3] 38)).alloc (.cells #[.int .u8 4, .int .u32 (ytx : Int), .int .u8 0, .bool false, .slice none 0 0] 31) = V := ⟨_, rfl⟩
              obtain ⟨gv, hgv⟩ : ∃ gv, wq.heap.size + 1 = gv := ⟨_, rfl⟩
              obtain ⟨gu, hgu⟩ : ∃ gu, wq.heap.size = gu := ⟨_, rfl⟩
              have RV : Hid (RowAt V gv 31 (rcV 4 ytx 0 false none 0 0)) := Lib.hid (by rw [← hV, ← hgv]; exact RowAt.new' _ _ _ _ (by simp))
              have RU : Hid (RowAt V gu 38 (jbV ytx ywho YA ytext.length yc 3)) := Lib.hid (by rw [← hV, ← hgu]; exact (RowAt.new wq _ _).alloc _)
              have bV : Below wq.heap.size wq V := by rw [← hV]; exact bel_alloc (bel_alloc (Below.refl _ _) _) _
              rw [hV]
              have JV := Lib.hid (HJW.out.to bV)
              have BV := Lib.hid (BW.out.trans (bV.mono BW.out.size))
              have BQV : Hid (Below w6.heap.size w6 V) := Lib.hid (BQ.out.trans (bV.mono BQ.out.size))
              rw [hgv, hgu]
              clear hV hgv hgu bV hy0 hy1 hy2 hy3 hj0 hj1 hj2 hj3
              have dlt : gv < (V).heap.size := RV.out.lt
              have dlu : gv < (V).heap.size + 1 := Nat.lt_succ_of_lt RV.out.lt
              have d0 : (V).cell? ⟨gv, 0, none⟩ = some (.int .u8 4) := RV.out.cells 0
              have dz0 : (V).frozen? ⟨gv, 0, none⟩ = false := RV.out.frozen 0
              have d1 : (V).cell? ⟨gv, 1, none⟩ = some (.int .u32 (ytx : Int)) := RV.out.cells 1
              have dz1 : (V).frozen? ⟨gv, 1, none⟩ = false := RV.out.frozen 1
              have d2 : (V).cell? ⟨gv, 2, none⟩ = some (.int .u8 0) := RV.out.cells 2
              have dz2 : (V).frozen? ⟨gv, 2, none⟩ = false := RV.out.frozen 2
              have d3 : (V).cell? ⟨gv, 3, none⟩ = some (.bool false) := RV.out.cells 3
              have dz3 : (V).frozen? ⟨gv, 3, none⟩ = false := RV.out.frozen 3
              have d4 : (V).cell? ⟨gv, 4, none⟩ = some (.slice none 0 0) := RV.out.cells 4
              have dz4 : (V).frozen? ⟨gv, 4, none⟩ = false := RV.out.frozen 4
              go_wp2_with fail
              (with_reducible refine (jend_any (some ⟨g1, o1, none⟩) n' c' jn ytx V JV.out HNN.out HYT.out HSTN.out (by omega) hshj.out).mono ?_)
              intro e w7 h7
              have HE2 := Lib.hid (Jp.end_twice (s := 5) HSTN.out HY.out rfl rfl)
              obtain ⟨A7, n7, c7, jl7, rfl, b7, h7', J7⟩ := h7.yes_form HE2.out.1
              have H7 := Lib.hid h7'
              have hn7 : n7 ≤ 80 := by
                have h := congrArg List.length H7.out
                rw [jps, List.length_map, J7.out.len, List.length_set, jps, List.length_map, HNN.out] at h
                omega
              have HRT7 : Hid (Jp.Rt (jps jl7)) := Lib.hid (by rw [H7.out]; exact Jp.put_rt HRTN.out HE2.out.1)
              have HST7 : Hid (Jp.Sorted (jps jl7)) := Lib.hid (And.left (show _ ∧ _ from HRT7.out))
              have hsh7 : Hid (∀ y ∈ jl7, y.p.text.length ≤ 1000000) := Lib.hid (fun y hy => by have := ((And.right (show _ ∧ _ from HRT7.out)) y.p (List.mem_map_of_mem hy)).2.2.1; omega)
              have HN7 : Hid (Jp.put (jps jl7) ⟨4, ytx, 0, false, []⟩ = none) := Lib.hid (by rw [H7.out]; exact HE2.out.2)
              have B7 := Lib.hid (BQV.out.trans (b7.mono BQV.out.size))
              have R7 := Lib.hid (RV.out.to b7)
              have U7 := Lib.hid (RU.out.to b7)
              clear h7 h7' b7 d0 d1 d2 d3 d4 dz0 dz1 dz2 dz3 dz4 dlt dlu
              have dlt : gv < (w7).heap.size := R7.out.lt
              have dlu : gv < (w7).heap.size + 1 := Nat.lt_succ_of_lt R7.out.lt
              have d0 : (w7).cell? ⟨gv, 0, none⟩ = some (.int .u8 4) := R7.out.cells 0
              have dz0 : (w7).frozen? ⟨gv, 0, none⟩ = false := R7.out.frozen 0
              have d1 : (w7).cell? ⟨gv, 1, none⟩ = some (.int .u32 (ytx : Int)) := R7.out.cells 1
              have dz1 : (w7).frozen? ⟨gv, 1, none⟩ = false := R7.out.frozen 1
              have d2 : (w7).cell? ⟨gv, 2, none⟩ = some (.int .u8 0) := R7.out.cells 2
              have dz2 : (w7).frozen? ⟨gv, 2, none⟩ = false := R7.out.frozen 2
              have d3 : (w7).cell? ⟨gv, 3, none⟩ = some (.bool false) := R7.out.cells 3
              have dz3 : (w7).frozen? ⟨gv, 3, none⟩ = false := R7.out.frozen 3
              have d4 : (w7).cell? ⟨gv, 4, none⟩ = some (.slice none 0 0) := R7.out.cells 4
              have dz4 : (w7).frozen? ⟨gv, 4, none⟩ = false := R7.out.frozen 4
              have ult : gu < (w7).heap.size := U7.out.lt
              have ulu : gu < (w7).heap.size + 1 := Nat.lt_succ_of_lt U7.out.lt
              have u0 : (w7).cell? ⟨gu, 0, none⟩ = some (.int .u32 (ytx : Int)) := U7.out.cells 0
              have uz0 : (w7).frozen? ⟨gu, 0, none⟩ = false := U7.out.frozen 0
              have u1 : (w7).cell? ⟨gu, 1, none⟩ = some (.int .u8 (ywho : Int)) := U7.out.cells 1
              have uz1 : (w7).frozen? ⟨gu, 1, none⟩ = false := U7.out.frozen 1
              have u2 : (w7).cell? ⟨gu, 2, none⟩ = some (.slice YA ytext.length yc) := U7.out.cells 2
              have uz2 : (w7).frozen? ⟨gu, 2, none⟩ = false := U7.out.frozen 2
              have u3 : (w7).cell? ⟨gu, 3, none⟩ = some (.int .u8 3) := U7.out.cells 3
              have uz3 : (w7).frozen? ⟨gu, 3, none⟩ = false := U7.out.frozen 3
              go_wp2_with fail
              (with_reducible refine (jend_any A7 n7 c7 jl7 ytx w7 J7.out.jbs J7.out.len HYT.out HST7.out (by omega) hsh7.out).mono ?_)
              intro e w8 h8
              obtain ⟨rfl, b8⟩ := h8.no_form HN7.out
              have B8 := Lib.hid (B7.out.trans (b8.mono B7.out.size))
              clear h8 b8 d0 d1 d2 d3 d4 dz0 dz1 dz2 dz3 dz4 dlt dlu u0 u1 u2 u3 uz0 uz1 uz2 uz3 ult ulu
              go_wp2
              go_roundw
              case rel => exact ⟨q + 1, by omega, by go_num, B8⟩
              case measure => simp [intOf]; omega
            · clear h1 hjr
              go_upto_region 24 with fail
              obtain ⟨V, hV⟩ : ∃ V, (wq.alloc (.cells #[.int .u32 (ytx : Int), .int .u8 (ywho : Int), .slice YA ytext.length yc, .int .u8 4] 38)).alloc (.cells #[.int .u8 4, .int .u32 (ytx : Int), .int .u8 0, .bool false, .slice none 0 0] 31) = V := ⟨_, rfl⟩
              obtain ⟨gv, hgv⟩ : ∃ gv, wq.heap.size + 1 = gv := ⟨_, rfl⟩
              obtain ⟨gu, hgu⟩ : ∃ gu, wq.heap.size = gu := ⟨_, rfl⟩
              have RV : Hid (RowAt V gv 31 (rcV 4 ytx 0 false none 0 0)) := Lib.hid (by rw [← hV, ← hgv]; exact RowAt.new' _ _ _ _ (by simp))
              have RU : Hid (RowAt V gu 38 (jbV ytx ywho YA ytext.length yc 4)) := Lib.hid (by rw [← hV, ← hgu]; exact (RowAt.new wq _ _).alloc _)
              have bV : Below wq.heap.size wq V := by rw [← hV]; exact bel_alloc (bel_alloc (Below.refl _ _) _) _
              rw [hV]
              have JV := Lib.hid (HJW.out.to bV)
              have BV := Lib.hid (BW.out.trans (bV.mono BW.out.size))
              have BQV : Hid (Below w6.heap.size w6 V) := Lib.hid (BQ.out.trans (bV.mono BQ.out.size))
              rw [hgv, hgu]
              clear hV hgv hgu bV hy0 hy1 hy2 hy3 hj0 hj1 hj2 hj3
              have dlt : gv < (V).heap.size := RV.out.lt
              have dlu : gv < (V).heap.size + 1 := Nat.lt_succ_of_lt RV.out.lt
              have d0 : (V).cell? ⟨gv, 0, none⟩ = some (.int .u8 4) := RV.out.cells 0
              have dz0 : (V).frozen? ⟨gv, 0, none⟩ = false := RV.out.frozen 0
              have d1 : (V).cell? ⟨gv, 1, none⟩ = some (.int .u32 (ytx : Int)) := RV.out.cells 1
              have dz1 : (V).frozen? ⟨gv, 1, none⟩ = false := RV.out.frozen 1
              have d2 : (V).cell? ⟨gv, 2, none⟩ = some (.int .u8 0) := RV.out.cells 2
              have dz2 : (V).frozen? ⟨gv, 2, none⟩ = false := RV.out.frozen 2
              have d3 : (V).cell? ⟨gv, 3, none⟩ = some (.bool false) := RV.out.cells 3
              have dz3 : (V).frozen? ⟨gv, 3, none⟩ = false := RV.out.frozen 3
              have d4 : (V).cell? ⟨gv, 4, none⟩ = some (.slice none 0 0) := RV.out.cells 4
              have dz4 : (V).frozen? ⟨gv, 4, none⟩ = false := RV.out.frozen 4
              go_wp2_with fail
              (with_reducible refine (jend_any (some ⟨g1, o1, none⟩) n' c' jn ytx V JV.out HNN.out HYT.out HSTN.out (by omega) hshj.out).mono ?_)
              intro e w7 h7
              have HE2 := Lib.hid (Jp.end_never HSTN.out HY.out rfl)
              obtain ⟨rfl, b7⟩ := h7.no_form HE2.out
              have B7 := Lib.hid (BQV.out.trans (b7.mono BQV.out.size))
              have U7 := Lib.hid (RU.out.to b7)
              clear h7 b7 d0 d1 d2 d3 d4 dz0 dz1 dz2 dz3 dz4 dlt dlu
              have ult : gu < (w7).heap.size := U7.out.lt
              have ulu : gu < (w7).heap.size + 1 := Nat.lt_succ_of_lt U7.out.lt
              have u0 : (w7).cell? ⟨gu, 0, none⟩ = some (.int .u32 (ytx : Int)) := U7.out.cells 0
              have uz0 : (w7).frozen? ⟨gu, 0, none⟩ = false := U7.out.frozen 0
              have u1 : (w7).cell? ⟨gu, 1, none⟩ = some (.int .u8 (ywho : Int)) := U7.out.cells 1
              have uz1 : (w7).frozen? ⟨gu, 1, none⟩ = false := U7.out.frozen 1
              have u2 : (w7).cell? ⟨gu, 2, none⟩ = some (.slice YA ytext.length yc) := U7.out.cells 2
              have uz2 : (w7).frozen? ⟨gu, 2, none⟩ = false := U7.out.frozen 2
              have u3 : (w7).cell? ⟨gu, 3, none⟩ = some (.int .u8 4) := U7.out.cells 3
              have uz3 : (w7).frozen? ⟨gu, 3, none⟩ = false := U7.out.frozen 3
              go_wp2
              go_roundw
              case rel => exact ⟨q + 1, by omega, by go_num, B7⟩
              case measure => simp [intOf]; omega
            · clear h1 hjr
              go_upto_region 24 with fail
              obtain ⟨V, hV⟩ : ∃ V, (wq.alloc (.cells #[.int .u32 (ytx : Int), .int .u8 (ywho : Int), .slice YA ytext.length yc, .int .u8 5] 38)).alloc (.cells #[.int .u8 4, .int .u32 (ytx : Int), .int .u8 0, .bool false, .slice none 0 0] 31) = V := ⟨_, rfl⟩
              obtain ⟨gv, hgv⟩ : ∃ gv, wq.heap.size + 1 = gv := ⟨_, rfl⟩
              obtain ⟨gu, hgu⟩ : ∃ gu, wq.heap.size = gu := ⟨_, rfl⟩
              have RV : Hid (RowAt V gv 31 (rcV 4 ytx 0 false none 0 0)) := Lib.hid (by rw [← hV, ← hgv]; exact RowAt.new' _ _ _ _ (by simp))
              have RU : Hid (RowAt V gu 38 (jbV ytx ywho YA ytext.length yc 5)) := Lib.hid (by rw [← hV, ← hgu]; exact (RowAt.new wq _ _).alloc _)
              have bV : Below wq.heap.size wq V := by rw [← hV]; exact bel_alloc (bel_alloc (Below.refl _ _) _) _
              rw [hV]
              have JV := Lib.hid (HJW.out.to bV)
              have BV := Lib.hid (BW.out.trans (bV.mono BW.out.size))
              have BQV : Hid (Below w6.heap.size w6 V) := Lib.hid (BQ.out.trans (bV.mono BQ.out.size))
              rw [hgv, hgu]
              clear hV hgv hgu bV hy0 hy1 hy2 hy3 hj0 hj1 hj2 hj3
              have dlt : gv < (V).heap.size := RV.out.lt
              have dlu : gv < (V).heap.size + 1 := Nat.lt_succ_of_lt RV.out.lt
              have d0 : (V).cell? ⟨gv, 0, none⟩ = some (.int .u8 4) := RV.out.cells 0
              have dz0 : (V).frozen? ⟨gv, 0, none⟩ = false := RV.out.frozen 0
              have d1 : (V).cell? ⟨gv, 1, none⟩ = some (.int .u32 (ytx : Int)) := RV.out.cells 1
              have dz1 : (V).frozen? ⟨gv, 1, none⟩ = false := RV.out.frozen 1
              have d2 : (V).cell? ⟨gv, 2, none⟩ = some (.int .u8 0) := RV.out.cells 2
              have dz2 : (V).frozen? ⟨gv, 2, none⟩ = false := RV.out.frozen 2
              have d3 : (V).cell? ⟨gv, 3, none⟩ = some (.bool false) := RV.out.cells 3
              have dz3 : (V).frozen? ⟨gv, 3, none⟩ = false := RV.out.frozen 3
              have d4 : (V).cell? ⟨gv, 4, none⟩ = some (.slice none 0 0) := RV.out.cells 4
              have dz4 : (V).frozen? ⟨gv, 4, none⟩ = false := RV.out.frozen 4
              go_wp2_with fail
              (with_reducible refine (jend_any (some ⟨g1, o1, none⟩) n' c' jn ytx V JV.out HNN.out HYT.out HSTN.out (by omega) hshj.out).mono ?_)
              intro e w7 h7
              have HE2 := Lib.hid (Jp.end_never HSTN.out HY.out rfl)
              obtain ⟨rfl, b7⟩ := h7.no_form HE2.out
              have B7 := Lib.hid (BQV.out.trans (b7.mono BQV.out.size))
              have U7 := Lib.hid (RU.out.to b7)
              clear h7 b7 d0 d1 d2 d3 d4 dz0 dz1 dz2 dz3 dz4 dlt dlu
              have ult : gu < (w7).heap.size := U7.out.lt
              have ulu : gu < (w7).heap.size + 1 := Nat.lt_succ_of_lt U7.out.lt
              have u0 : (w7).cell? ⟨gu, 0, none⟩ = some (.int .u32 (ytx : Int)) := U7.out.cells 0
              have uz0 : (w7).frozen? ⟨gu, 0, none⟩ = false := U7.out.frozen 0
              have u1 : (w7).cell? ⟨gu, 1, none⟩ = some (.int .u8 (ywho : Int)) := U7.out.cells 1
              have uz1 : (w7).frozen? ⟨gu, 1, none⟩ = false := U7.out.frozen 1
              have u2 : (w7).cell? ⟨gu, 2, none⟩ = some (.slice YA ytext.length yc) := U7.out.cells 2
              have uz2 : (w7).frozen? ⟨gu, 2, none⟩ = false := U7.out.frozen 2
              have u3 : (w7).cell? ⟨gu, 3, none⟩ = some (.int .u8 5) := U7.out.cells 3
              have uz3 : (w7).frozen? ⟨gu, 3, none⟩ = false := U7.out.frozen 3
              go_wp2
              go_roundw
              case rel => exact ⟨q + 1, by omega, by go_num, B7⟩
              case measure => simp [intOf]; omega
        · obtain rfl : q = n' := by omega
          have BX : Hid (Below w.heap.size w wq) := Lib.hid (B6.out.trans (BQ.out.mono B6.out.size))
          go_wp2_with fail
          refine (awake_any _).mono ?_
          rintro e w9 ⟨rfl, b9⟩
          have B9 := Lib.hid (BX.out.trans (b9.mono BX.out.size))
          clear b9
          go_wp2
          go_ret
          exact ⟨rfl, B9.out⟩
end Go.Proofs.Ytegmeodmjaijnaa
