/- Layer 23: Add, Make. -/
import Derived.Test.YtegmeodmjaijnaaLgPut
namespace Go.Proofs.Ytegmeodmjaijnaa
open Go.RowKit
set_option linter.unusedVariables false
set_option linter.unusedSimpArgs false
attribute [local go_sem] Later.cell Later.frozen setCell_twice
/-- what Add and Make hand back: a ledger of their own, or the error -/
def LgP (base : Nat) (o : Option (List Jp)) (w : World) (e : Ending) (w' : World) : Prop :=
  Below base w w' ∧ ((o = none ∧ e = .returned (.tuple #[.slice none 0 0, .int .i64 230])) ∨ ∃ L A' n' c' jl', o = some L ∧ e = .returned (.tuple #[.slice A' n' c', .int .i64 0]) ∧ jps jl' = L ∧ JL w' base A' n' c' jl')
theorem LgP.no {base : Nat} {o : Option (List Jp)} {w w' : World} (h : o = none) (hb : Below base w w') : LgP base o w (.returned (.tuple #[.slice none 0 0, .int .i64 230])) w' := ⟨hb, .inl ⟨h, rfl⟩⟩
theorem LgP.yes {base n c : Nat} {A : Option Addr} {jl : List Jb} {o : Option (List Jp)} {w w' : World} (h : o = some (jps jl)) (hb : Below base w w') (hJ : JL w' base A n c jl) : LgP base o w (.returned (.tuple #[.slice A n c, .int .i64 0])) w' := ⟨hb, .inr ⟨_, A, n, c, jl, h, rfl, rfl, hJ⟩⟩
theorem PutP.form {base : Nat} {jl : List Jb} {x : Nr} {w w' : World} {e : Ending} (h : PutP base jl x w e w') : ∃ A n c b, e = .returned (.tuple #[.slice A n c, .bool b]) ∧ Below base w w' ∧ Hid ((b = false ∧ Jp.put (jps jl) x = none) ∨ (b = true ∧ ∃ jl', Jp.put (jps jl) x = some (jps jl') ∧ JL w' base A n c jl')) := by
  obtain ⟨hb, h | ⟨L, A, n, c, jl', h1, rfl, rfl, hJ⟩⟩ := h
  · exact ⟨none, 0, 0, false, h.2, hb, Lib.hid (.inl ⟨rfl, h.1⟩)⟩
  · exact ⟨A, n, c, true, rfl, hb, Lib.hid (.inr ⟨rfl, jl', h1, hJ⟩)⟩
theorem size_recj : (Try.prog.info? 31).map (·.size) = some 5 := by kernel_rfl
theorem range_belowj {w w' : World} {B b o : Nat} {cs : List Value} (h : w.rangeAt b o cs) (k : Below B w w') (hb : b < B) : w'.rangeAt b o cs := fun j v hv => (k.cell (p := ⟨b, o + j, none⟩) hb).trans (h j v hv)
set_option maxRecDepth 100000 in
set_option maxHeartbeats 1000000 in
theorem jadd_any (A : Option Addr) (n c : Nat) (l : List Jb) (what tx who : Nat) (yes : Bool) (text : List Nat) (XA : Option Addr) (m xc : Nat) (w : World) (hJ : Jbs w w.heap.size A l) (hln : l.length = n) (hm : text.length = m) (hsq : Sq byw w w.heap.size XA text) (hfit : (Nr.mk what tx who yes text).Fit) (hnl : XA = none → xc = 0)
    (hs : Jp.Sorted (jps l)) (hn : n ≤ 90000) (ht : m ≤ 1000000) (hsh : ∀ y ∈ l, y.p.text.length ≤ 1000000) :
    Calls Try.prog 13 #[.slice A n c, .agg (rcV what tx who yes XA m xc).toArray] w (LgP w.heap.size (Jp.put (jps l) ⟨what, tx, who, yes, text⟩) w) := by
  have hfr : Below w.heap.size w (w.alloc (.cells #[.int .u8 (what : Int), .int .u32 (tx : Int), .int .u8 (who : Int), .bool yes, .slice XA m xc] 31)) := bel_alloc (Below.refl _ _) _
  have J0 := Lib.hid (hJ.to hfr)
  have Q0 := Lib.hid ((hsq.below hfr).more hfr.size)
  have B0 := Lib.hid hfr
  have R0 : Hid (RowAt (w.alloc (.cells #[.int .u8 (what : Int), .int .u32 (tx : Int), .int .u8 (who : Int), .bool yes, .slice XA m xc] 31)) w.heap.size 31 (rcV what tx who yes XA m xc)) := Lib.hid (RowAt.new _ _ _)
  have HS := Lib.hid hs
  have HF := Lib.hid hfit
  have HM := Lib.hid hm
  have HLN := Lib.hid hln
  have HSH := Lib.hid hsh
  clear hfr hJ hsq hs hfit hm hln hsh
  go_enter Try.func13, Try.ntmps13
  go_wp2_with fail
  generalize w.alloc (.cells #[.int .u8 (what : Int), .int .u32 (tx : Int), .int .u8 (who : Int), .bool yes, .slice XA m xc] 31) = W0 at *
  obtain ⟨gv, hgv⟩ : ∃ gv, w.heap.size = gv := ⟨_, rfl⟩
  have HGV := Lib.hid hgv
  rw [hgv] at R0
  have hgv0 : gv < W0.heap.size := R0.out.lt
  rw [hgv]
  clear hgv
  refine wp_region_held_drew (S := (fun w' => w'.rangeAt gv 0 (rcV what tx who yes XA m xc))) (by kernel_rfl) ?_ (fun hHeld => ?_)
  · exact R0.out.all
  refine takeD (i := 0) (oi := _) (v := ?vv1) (d := some 9) rfl (by kernel_rfl) (by kernel_rfl) (by kernel_rfl) (by kernel_rfl) (fun _ _ _ h => h) (Or.inl ⟨by kernel_rfl, ?_⟩) (by assumption) ?_
  rotate_left 1
  · intro W_ hSw; (try dsimp only at hSw); go_simp; (first | done | with_reducible rfl)
  try simp only [Act.put, List.setIfInBounds_toArray, List.set_cons_zero, List.set_cons_succ]
  refine takeD (i := 2) (oi := _) (v := _) (d := some 11) rfl (by kernel_rfl) (by kernel_rfl) (by kernel_rfl) (by kernel_rfl) (fun _ _ _ h => h) (yieldsIf_load_mid (by kernel_rfl) 31 (.tmp 3) (by kernel_rfl) gv 0 (by kernel_rfl) (rcV what tx who yes XA m xc) _ (fun W h => h) Try.underlying31 rfl size_recj) (by assumption) ?_
  try simp only [Act.put, List.setIfInBounds_toArray, List.set_cons_zero, List.set_cons_succ]
  refine wpAnyH_ready (rs := [1]) (by kernel_rfl) (by simp) ?_
  refine AllReadyH.cons (o := _) rfl (fun K hK => ?_) AllReadyH.nil
  go_simp
  (go_at_call 30; (with_reducible refine (jown_any A l c n _ HLN.out ((J0.out.to (Below.refl _ _).drew)) (by omega) HSH.out).mono ?_); rintro e w2 ⟨g, jl, rfl, hps, hJ2, b2⟩; have J2 := Lib.hid hJ2; have HPS := Lib.hid hps; have B2 : Hid (Below W0.heap.size W0 w2) := Lib.hid ((Below.refl W0.heap.size W0).drew.trans b2); clear hJ2 hps b2)
  go_wp2_with fail
  refine hK.out _ _ ?_ (fun hHeld => ?_)
  · exact range_belowj R0.out.all B2.out hgv0
  clear hK K
  try simp only [Act.put, List.setIfInBounds_toArray, List.set_cons_zero, List.set_cons_succ]
  refine wpAnyH_ready (rs := [3]) (by kernel_rfl) (by simp) ?_
  refine AllReadyH.cons (o := _) rfl (fun K hK => ?_) AllReadyH.nil
  go_simp
  (go_at_call 31; (with_reducible refine (steps_any _).mono ?_); rintro e W3 ⟨gm, rfl, hgm, hS3, b3⟩; have M3 := Lib.hid hS3; have J3 : Hid (JL W3 W0.heap.size (some ⟨g, 0, none⟩) n (n + 1) jl) := Lib.hid (J2.out.to b3); have B03 : Hid (Below W0.heap.size W0 W3) := Lib.hid (B2.out.trans (b3.mono B2.out.size)); clear hgm hS3 b3)
  go_wp2_with fail
  refine hK.out _ _ ?_ (fun hHeld => ?_)
  · exact range_belowj R0.out.all B03.out hgv0
  clear hK K
  try simp only [Act.put, List.setIfInBounds_toArray, List.set_cons_zero, List.set_cons_succ]
  have RG3 : Hid (W3.rangeAt gv 0 (rcV what tx who yes XA m xc)) := Lib.hid (range_belowj R0.out.all B03.out hgv0)
  refine wpAnyH_ready (rs := [4]) (by kernel_rfl) (by simp) ?_
  refine AllReadyH.cons (o := _) rfl (fun K hK => ?_) AllReadyH.nil
  go_simp
  (go_at_call 29; (with_reducible refine (put_any (some ⟨g, 0, none⟩) n (n + 1) jl what tx who yes text XA m xc gm W0.heap.size W3 J3.out HM.out ((Q0.out.below B03.out).more B03.out.size) HF.out hnl M3.out (by rw [HPS.out]; exact HS.out) B03.out.size (by omega) ht).mono ?_); intro e w4 h4; obtain ⟨A4, n4, c4, b, rfl, b4, H4⟩ := h4.form; rw [HPS.out] at H4; have B4 : Hid (Below w.heap.size w w4) := Lib.hid (B0.out.trans ((B03.out.trans b4).mono B0.out.size)); have RG4 := Lib.hid (range_belowj RG3.out b4 hgv0); clear h4 b4)
  go_wp2_with fail
  refine hK.out _ _ ?_ (fun hHeld => ?_)
  · exact RG4.out
  clear hK K
  try simp only [Act.put, List.setIfInBounds_toArray, List.set_cons_zero, List.set_cons_succ]
  refine takeD (i := 5) (oi := _) (v := ?vv2) (d := some 8) rfl (by kernel_rfl) (by kernel_rfl) (by kernel_rfl) (by kernel_rfl) (fun _ _ _ h => h) (Or.inl ⟨by kernel_rfl, ?_⟩) (by assumption) ?_
  rotate_left 1
  · intro W_ hSw; (try dsimp only at hSw); go_simp; (first | done | with_reducible rfl)
  try simp only [Act.put, List.setIfInBounds_toArray, List.set_cons_zero, List.set_cons_succ]
  refine takeD (i := 6) (oi := _) (v := ?vv3) (d := some 14) rfl (by kernel_rfl) (by kernel_rfl) (by kernel_rfl) (by kernel_rfl) (fun _ _ _ h => h) (Or.inl ⟨by kernel_rfl, ?_⟩) (by assumption) ?_
  rotate_left 1
  · intro W_ hSw; (try dsimp only at hSw); go_simp; (first | done | with_reducible rfl)
  try simp only [Act.put, List.setIfInBounds_toArray, List.set_cons_zero, List.set_cons_succ]
  refine takeD (i := 7) (oi := _) (v := ?vv4) (d := some 15) rfl (by kernel_rfl) (by kernel_rfl) (by kernel_rfl) (by kernel_rfl) (fun _ _ _ h => h) (Or.inl ⟨by kernel_rfl, ?_⟩) (by assumption) ?_
  rotate_left 1
  · intro W_ hSw; (try dsimp only at hSw); go_simp; (first | done | with_reducible rfl)
  try simp only [Act.put, List.setIfInBounds_toArray, List.set_cons_zero, List.set_cons_succ]
  refine takeD (i := 8) (oi := _) (v := ?vv5) (d := some 6) rfl (by kernel_rfl) (by kernel_rfl) (by kernel_rfl) (by kernel_rfl) (fun _ _ _ h => h) (Or.inl ⟨by kernel_rfl, ?_⟩) (by assumption) ?_
  rotate_left 1
  · intro W_ hSw; (try dsimp only at hSw); go_simp; (first | done | with_reducible rfl)
  try simp only [Act.put, List.setIfInBounds_toArray, List.set_cons_zero, List.set_cons_succ]
  refine takeD (i := 9) (oi := _) (v := ?vv6) (d := some 7) rfl (by kernel_rfl) (by kernel_rfl) (by kernel_rfl) (by kernel_rfl) (fun _ _ _ h => h) (Or.inl ⟨by kernel_rfl, ?_⟩) (by assumption) ?_
  rotate_left 1
  · intro W_ hSw; (try dsimp only at hSw); go_simp; (first | done | with_reducible rfl)
  try simp only [Act.put, List.setIfInBounds_toArray, List.set_cons_zero, List.set_cons_succ]
  refine wpAnyH_done (by kernel_rfl) ?_ _
  rcases H4.out with ⟨rfl, hno⟩ | ⟨rfl, jl4, hyes, hJ4⟩
  · have HNO := Lib.hid hno
    clear hno
    go_wp2
    go_ret2
    exact LgP.no HNO.out B4.out
  · have HYES := Lib.hid hyes
    have HJ4 := Lib.hid (hJ4.base_le B0.out.size)
    clear hyes hJ4
    go_wp2
    go_ret2
    exact LgP.yes HYES.out B4.out HJ4.out
/-- records that have come so far -/
theorem Jp.makeFrom_append (l : List Jp) (a b : List Nr) : Jp.makeFrom l (a ++ b) = (Jp.makeFrom l a).bind (fun m => Jp.makeFrom m b) := by
  induction a generalizing l with
  | nil => rfl
  | cons x a ih =>
    rw [List.cons_append, Jp.makeFrom, Jp.makeFrom]
    cases Jp.put l x with
    | none => rfl
    | some m => exact ih m
theorem Jp.make_snoc {l : List Nr} {k : Nat} {x : Nr} {J : List Jp} (hx : l[k]? = some x) (h : Jp.make (l.take k) = some J) : Jp.make (l.take (k + 1)) = Jp.put J x := by
  unfold Jp.make at h ⊢
  rw [List.take_add_one, hx, Option.toList, Jp.makeFrom_append, h, Option.bind_some, Jp.makeFrom]
  cases Jp.put J x <;> rfl
theorem Jp.make_none {l : List Nr} {k : Nat} {x : Nr} {J : List Jp} (hx : l[k]? = some x) (h : Jp.make (l.take k) = some J) (hp : Jp.put J x = none) : Jp.make l = none := by
  have h1 := Jp.make_snoc hx h
  rw [hp] at h1
  unfold Jp.make at h1 ⊢
  rw [← List.take_append_drop (k + 1) l, Jp.makeFrom_append, h1]
  rfl
theorem Jp.makeFrom_sorted {l m : List Jp} (r : List Nr) (hs : Jp.Sorted l) (h : Jp.makeFrom l r = some m) : Jp.Sorted m := by
  induction r generalizing l with
  | nil => obtain rfl := Option.some.inj h; exact hs
  | cons x r ih =>
    rw [Jp.makeFrom] at h
    split at h
    · cases h
    · next m' hm => exact ih (Jp.put_sorted hs hm) h
theorem Jp.make_sorted {r : List Nr} {m : List Jp} (h : Jp.make r = some m) : Jp.Sorted m := Jp.makeFrom_sorted r List.Pairwise.nil h
theorem Jp.makeFrom_length {l m : List Jp} (r : List Nr) (h : Jp.makeFrom l r = some m) : m.length ≤ l.length + r.length := by
  induction r generalizing l with
  | nil => obtain rfl := Option.some.inj h; simp
  | cons x r ih =>
    rw [Jp.makeFrom] at h
    split at h
    · cases h
    · next m' hm =>
      have h1 := ih h
      have h2 := Jp.put_length hm
      rw [List.length_cons]
      omega
theorem Rcs.rangej {w : World} {B b o k : Nat} {x : Rc} {l : List Rc} (h : Rcs w B (some ⟨b, o, none⟩) l) (hk : l[k]? = some x) : w.rangeAt b (o + k * 5) (recK.f x) := by
  intro j v hv
  obtain ⟨b', o', hA, hb, hc⟩ := h.rc (Nat.lt_of_le_of_lt (Nat.zero_le _) (List.getElem?_eq_some_iff.1 hk).1)
  obtain ⟨rfl, rfl⟩ : b = b' ∧ o = o' := by simpa using hA
  have := hc k x hk j v hv
  rwa [← Nat.add_assoc] at this
set_option maxRecDepth 100000 in
set_option maxHeartbeats 1000000 in
theorem jmake_any (A : Option Addr) (n c : Nat) (l : List Rc) (w : World) (hR : Rcs w w.heap.size A l) (hln : l.length = n) (hn : n ≤ 90000) (hsh : ∀ y ∈ l, y.p.text.length ≤ 1000000) :
    Calls Try.prog 17 #[.slice A n c] w (LgP w.heap.size (Jp.make (l.map Rc.p)) w) := by
  have HR := Lib.hid hR
  have HLN := Lib.hid hln
  have HSH := Lib.hid hsh
  clear hR hln hsh
  go_enter Try.func17, Try.ntmps17
  go_wp2_with fail
  refine (steps_any _).mono ?_
  rintro e W3 ⟨gm, rfl, hgm, hS3, b3⟩
  have M3 := Lib.hid hS3
  have B3 := Lib.hid b3
  obtain ⟨base, hbs⟩ : ∃ base, W3.heap.size = base := ⟨_, rfl⟩
  have HBS := Lib.hid hbs
  have J0 := Lib.hid (JL.nil W3 base)
  clear hS3 b3 hbs
  go_wp2
  go_loopw [5, 12] (fun r i wr => ∃ (k : Nat) (A' : Option Addr) (n' c' : Nat) (jl : List Jb), k ≤ n ∧ i = .int .i64 k ∧ r = .slice A' n' c' ∧ Hid (JL wr base A' n' c' jl ∧ Jp.make ((l.take k).map Rc.p) = some (jps jl) ∧ Below base W3 wr)) (fun _ i _ => n - (intOf i).toNat)
  case atStart => exact ⟨0, none, 0, 0, [], by omega, rfl, rfl, Lib.hid ⟨J0.out, rfl, Below.refl _ _⟩⟩
  case round =>
    rename World => wr
    obtain ⟨k, A', n', c', jl, hk, rfl, rfl, hh⟩ := hrel
    have JA := Lib.hid hh.out.1
    have MK := Lib.hid hh.out.2.1
    have BE := Lib.hid hh.out.2.2
    have BW : Hid (Below w.heap.size w wr) := Lib.hid (B3.out.trans (BE.out.mono (by have := B3.out.size; have := HBS.out; omega)))
    clear hh J0
    by_cases hlt : k < n
    · obtain ⟨g1, o1, x, rfl, hg1, hx, hxo, hx0, hx1, hx2, hx3, hx4⟩ := (HR.out.to BW.out).at_ (k := k) (by rw [HLN.out]; exact hlt)
      have hltI : (k : Int) < (n : Int) := by omega
      have h0I : (0 : Int) ≤ (k : Int) := by omega
      have HX : Hid ((l.map Rc.p)[k]? = some x.p) := Lib.hid (by rw [List.getElem?_map, hx]; rfl)
      have HXL : Hid (x.p.text.length ≤ 1000000) := Lib.hid (HSH.out x (List.mem_of_getElem? hx))
      have HXO := Lib.hid hxo
      obtain ⟨⟨what, tx, who, yes, text⟩, XA, xc⟩ := x
      dsimp only at hx0 hx1 hx2 hx3 hx4 HXL HX
      obtain ⟨m, hm⟩ : ∃ m, text.length = m := ⟨_, rfl⟩
      have HM := Lib.hid hm
      rw [hm] at hx4 HXL
      clear hx hxo hm
      go_upto_region 6 with fail
      obtain ⟨V, hV⟩ : ∃ V, wr.alloc (.cells #[.int .u8 (what : Int), .int .u32 (tx : Int), .int .u8 (who : Int), .bool yes, .slice XA m xc] 31) = V := ⟨_, rfl⟩
      obtain ⟨gv, hgv⟩ : ∃ gv, wr.heap.size = gv := ⟨_, rfl⟩
      have RV : Hid (RowAt V gv 31 (rcV what tx who yes XA m xc)) := Lib.hid (by rw [← hV, ← hgv]; exact RowAt.new _ _ _)
      have bV : Below wr.heap.size wr V := by rw [← hV]; exact bel_alloc (Below.refl _ _) _
      rw [hV]
      have JV := Lib.hid (JA.out.to bV)
      have XV : Hid (RcOk V V.heap.size ⟨⟨what, tx, who, yes, text⟩, XA, xc⟩) := Lib.hid (((HXO.out).below bV).more bV.size)
      have HNL : Hid (XA = none → xc = 0) := Lib.hid (And.left (show _ ∧ _ from XV.out.nl))
      have hbb : base ≤ wr.heap.size := by have := BE.out.size; have := HBS.out; omega
      have BV : Hid (Below base W3 V) := Lib.hid (BE.out.trans (bV.mono hbb))
      have MV : Hid (StepMap V gm (fun _ => true)) := Lib.hid (M3.out.to (BV.out.mono (by have := HBS.out; omega)))
      have hbV : base ≤ V.heap.size := Nat.le_trans hbb bV.size
      rw [hgv]
      have hnn : n' ≤ 90000 := by
        have h1 := JA.out.len
        have h2 := Jp.makeFrom_length _ MK.out
        simp only [List.length_map, List.length_take, List.length_nil, jps] at h2
        omega
      clear hV hgv bV hx0 hx1 hx2 hx3 hx4
      have dlt : gv < (V).heap.size := RV.out.lt
      have dlu : gv < (V).heap.size + 1 := Nat.lt_succ_of_lt RV.out.lt
      have d0 : (V).cell? ⟨gv, 0, none⟩ = some (.int .u8 (what : Int)) := RV.out.cells 0
      have dz0 : (V).frozen? ⟨gv, 0, none⟩ = false := RV.out.frozen 0
      have d1 : (V).cell? ⟨gv, 1, none⟩ = some (.int .u32 (tx : Int)) := RV.out.cells 1
      have dz1 : (V).frozen? ⟨gv, 1, none⟩ = false := RV.out.frozen 1
      have d2 : (V).cell? ⟨gv, 2, none⟩ = some (.int .u8 (who : Int)) := RV.out.cells 2
      have dz2 : (V).frozen? ⟨gv, 2, none⟩ = false := RV.out.frozen 2
      have d3 : (V).cell? ⟨gv, 3, none⟩ = some (.bool yes) := RV.out.cells 3
      have dz3 : (V).frozen? ⟨gv, 3, none⟩ = false := RV.out.frozen 3
      have d4 : (V).cell? ⟨gv, 4, none⟩ = some (.slice XA m xc) := RV.out.cells 4
      have dz4 : (V).frozen? ⟨gv, 4, none⟩ = false := RV.out.frozen 4
      go_wp2_with fail
      (with_reducible refine (put_any A' n' c' jl what tx who yes text XA m xc gm base V JV.out HM.out XV.out.sq XV.out.fit HNL.out MV.out (Jp.make_sorted MK.out) hbV (by omega) HXL.out).mono ?_)
      intro e w4 h4
      obtain ⟨A4, n4, c4, b, rfl, b4, H4⟩ := h4.form
      have B4 := Lib.hid (BV.out.trans b4)
      clear h4 b4 d0 d1 d2 d3 d4 dz0 dz1 dz2 dz3 dz4 dlt dlu
      rcases H4.out with ⟨rfl, hno⟩ | ⟨rfl, jl4, hyes, hJ4⟩
      · have HNO : Hid (Jp.make (l.map Rc.p) = none) := Lib.hid (Jp.make_none HX.out (by rw [← List.map_take]; exact MK.out) hno)
        clear hno
        go_wp2
        go_ret2
        exact LgP.no HNO.out (B3.out.trans (B4.out.mono (by have := B3.out.size; have := HBS.out; omega)))
      · have HYES : Hid (Jp.make ((l.take (k + 1)).map Rc.p) = some (jps jl4)) := Lib.hid (by rw [List.map_take, Jp.make_snoc HX.out (by rw [← List.map_take]; exact MK.out)]; exact hyes)
        have HJ4 := Lib.hid hJ4
        clear hyes hJ4
        go_wp2
        go_roundw
        case rel => exact ⟨k + 1, A4, n4, c4, jl4, by omega, by go_num, rfl, Lib.hid ⟨HJ4.out, HYES.out, B4.out⟩⟩
        case measure => simp [intOf]; omega
    · obtain rfl : k = n := by omega
      have HYES : Hid (Jp.make (l.map Rc.p) = some (jps jl)) := Lib.hid (by have h := MK.out; rwa [List.take_of_length_le (by rw [HLN.out]; exact Nat.le_refl _)] at h)
      have HJ4 : Hid (JL wr w.heap.size A' n' c' jl) := Lib.hid (JA.out.base_le (by have := B3.out.size; have := HBS.out; omega))
      go_wp2
      go_ret2
      exact LgP.yes HYES.out BW.out HJ4.out
end Go.Proofs.Ytegmeodmjaijnaa
