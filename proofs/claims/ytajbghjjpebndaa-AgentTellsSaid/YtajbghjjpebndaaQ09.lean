/- The walk of stage.Put. The walk of stage.Put where the block is put. The walk of stage.Back. -/
import Derived.Test.YtajbghjjpebndaaQ08
namespace Go.Proofs.Ytajbghjjpebndaa
set_option maxRecDepth 100000
open Go.RowKit
set_option linter.unusedVariables false
attribute [local go_sem] Later.cell Later.frozen setCell_twice
theorem results_cell_tmp {P : Program} {fn : Func} {p q : Tmp} {ty : TypeId} (h : fn.results = #[.cell p ty, .tmp q]) (tmps : Array Value) (w : World) (g : Nat) (t : TypeId) (cs : Array Value) (fr : Nat × Nat) (d : TypeDesc)
    (hp : tmps.getD p undef = .pointer (some ⟨g, 0, none⟩)) (hg : w.heap[g]? = some (.cells cs t fr))
    (hu : P.underlying ty = some d) (hd : (match d with | .struct _ | .array _ _ => true | _ => false) = true) (hi : (P.info? ty).map (·.size) = some cs.size) :
    (results fn tmps).run P w = .ok (.tuple #[.agg cs, tmps.getD q undef]) w := by
  have hp' : tmps[p]?.getD undef = .pointer (some ⟨g, 0, none⟩) := by simpa using hp
  simp [results, h, hp', asAddr, run_loadVar_row w g t ty cs fr d hg hu hd hi]
abbrev Blk.zero : Blk := ⟨0, [], none, 0⟩
def Stv.zero : Stv := ⟨0, List.replicate 8 false, List.replicate 8 Blk.zero⟩
theorem Blk.zero_ok (w : World) (B : Nat) : Blk.zero.Ok w B := ⟨Sq.nil, by simp, by decide, by decide, by decide, by decide, fun _ => rfl⟩
theorem Stv.zero_ok (w : World) (B : Nat) : Stv.zero.Ok w B := ⟨by decide, by decide, by decide, fun b hb => by rw [List.eq_of_mem_replicate hb]; exact Blk.zero_ok w B⟩
/-- its words lie in no block g -/
def Blk.Apart (g : Nat) (b : Blk) : Prop := 0 < b.ws.length → ∀ p, b.A = some p → p.block ≠ g
theorem Blk.Ok.apart {w : World} {B g : Nat} {b : Blk} (h : b.Ok w B) (hg : B ≤ g) : b.Apart g := fun hn p hp => by
  obtain ⟨b', o, hA, hb, _⟩ := h.sq hn
  rw [hA] at hp
  obtain rfl := Option.some.inj hp
  simp only
  omega
theorem Blk.Ok.setOther {w : World} {B g i : Nat} {b : Blk} {v : Value} (h : b.Ok w B) (ho : b.Apart g) : b.Ok (w.setCell ⟨g, i, none⟩ v) B :=
  ⟨fun hn => by
    obtain ⟨b', o, hA, hb, hc⟩ := h.sq hn
    exact ⟨b', o, hA, hb, fun j x hx => keep_block (ho hn _ hA).symm (hc j x hx)⟩, h.u, h.lo, h.hi, h.ln, h.cap, h.nl⟩
theorem set_set_length {α : Type} (l : List α) (i : Nat) (x : α) : (l.set i x).length = l.length := by simp
/-- the cells behind what is written -/
theorem Stv.C_have_set {s : Stv} {k : Nat} (x : Bool) (h : k < s.hs.length) : s.C.set (1 + k) (.bool x) = (⟨s.tx, s.hs.set k x, s.bs⟩ : Stv).C := by
  unfold Stv.C
  rw [Nat.add_comm, List.set_cons_succ, List.set_append_left _ _ (by simpa using h), List.map_set]
theorem Stv.C_block_set {s : Stv} (h1 : s.hs.length = 8) {k : Nat} (b : Blk) (h : k < s.bs.length) : (s.C.set (9 + k * 2) (.int .i64 b.a)).set (9 + k * 2 + 1) (.slice b.A b.ws.length b.c) = (⟨s.tx, s.hs, s.bs.set k b⟩ : Stv).C := by
  unfold Stv.C
  rw [show 9 + k * 2 = (8 + k * 2) + 1 by omega, List.set_cons_succ, show 8 + k * 2 + 1 + 1 = (8 + (k * 2 + 1)) + 1 by omega, List.set_cons_succ, List.set_append_right _ _ (by simp; omega), List.set_append_right _ _ (by simp; omega)]
  have e1 : 8 + k * 2 - (s.hs.map Value.bool).length = k * 2 := by simp; omega
  have e2 : 8 + (k * 2 + 1) - (s.hs.map Value.bool).length = k * 2 + 1 := by simp; omega
  rw [e1, e2, flat_set b h]
/-- what Put hands back -/
def PutP (w : World) (tx : Nat) (hs : List Bool) (ps : List Bk.Pr) (E : Int) (e : Ending) (w' : World) : Prop :=
  ∃ s' : Stv, e = .returned (.tuple #[.agg s'.C.toArray, .int .i64 E]) ∧ s'.Ok w' w'.heap.size ∧ s'.tx = tx ∧ s'.hs = hs ∧ (∀ k b, s'.bs[k]? = some b → (hs.getD k false = true → b.pr = ps.getD k (0, [])) ∧ (hs.getD k false = false → b = Blk.zero) ∧ ∀ p, b.A = some p → w.heap.size ≤ p.block) ∧ Below w.heap.size w w'
theorem PutP.zero {w w' : World} {ps : List Bk.Pr} {E : Int} (hb : Below w.heap.size w w') : PutP w 0 (List.replicate 8 false) ps E (.returned (.tuple #[.agg Stv.zero.C.toArray, .int .i64 E])) w' :=
  ⟨Stv.zero, rfl, Stv.zero_ok _ _, rfl, rfl, (fun k b hk => by
    have hb0 : b = Blk.zero := List.eq_of_mem_replicate (List.mem_of_getElem? hk)
    refine ⟨fun h => ?_, fun _ => hb0, fun p hp => by rw [hb0] at hp; cases hp⟩
    rw [List.getD_eq_getElem?_getD] at h
    cases hg : (List.replicate 8 false)[k]? with
    | none => rw [hg] at h; cases h
    | some x => rw [hg] at h; rw [List.eq_of_mem_replicate (List.mem_of_getElem? hg)] at h; cases h), hb⟩
abbrev z25 : Array Value := #[.int .u32 0, .bool false, .bool false, .bool false, .bool false, .bool false, .bool false, .bool false, .bool false, .int .i64 0, .slice none 0 0, .int .i64 0, .slice none 0 0, .int .i64 0, .slice none 0 0, .int .i64 0, .slice none 0 0, .int .i64 0, .slice none 0 0, .int .i64 0, .slice none 0 0, .int .i64 0, .slice none 0 0, .int .i64 0, .slice none 0 0]
theorem size_z25 : (Try.prog.info? 33).map (·.size) = some z25.size := by kernel_rfl
theorem one_z25 : z25.all (·.oneCell') = true := by kernel_rfl
theorem z25_eq : Stv.zero.C.toArray = z25 := rfl
theorem put_row (w : World) (C : List Value) (X : Array Value) : RowAt (((w.alloc (.cells C.toArray 33)).alloc (.cells X 30)).alloc (.cells z25 33)) (w.heap.size + 1 + 1) 33 Stv.zero.C := by
  have := heap_alloc_new ((w.alloc (.cells C.toArray 33)).alloc (.cells X 30)) (.cells z25 33)
  simpa [RowAt, z25_eq] using this
set_option maxRecDepth 100000 in
set_option maxHeartbeats 200000 in
theorem put_bad0 (C : List Value) (n a : Int) (A : Option Addr) (c m : Nat) (w : World) (h : n < 0 ∨ 7 < n) :
    Calls Try.prog 71 #[.agg C.toArray, .int .i64 n, .agg #[.int .i64 a, .slice A m c]] w fun e w' => e = .returned (.tuple #[.agg z25, .int .i64 2]) ∧ Below w.heap.size w w' := by
  have kn := Lib.hid (fun W => number_any n false W (by simp; omega))
  have HROW := Lib.hid (put_row w C #[.int .i64 a, .slice A m c])
  clear h
  go_enter Try.func71, Try.ntmps71
  go_wp2_with fail
  with_reducible refine (kn.out _).mono ?_
  rintro e_ w_ ⟨rfl, rfl⟩
  go_wp2_with (refine wpList_store_row rfl 33 (.tmp 6) (.tmp 13) rfl (w.heap.size + 1 + 1) z25 rfl rfl 33 z25 HROW.out size_z25 rfl one_z25 ?_)
  exact bodyPost_ret (results_cell_tmp rfl _ _ (w.heap.size + 1 + 1) 33 z25 (0, 0) _ rfl (RowAt.row HROW.out Stv.zero.C) Try.underlying33 rfl size_z25) rfl ⟨rfl, (below_setRow (bel_alloc (bel_alloc (bel_alloc (Below.refl _ _) _) _) _) (by omega) _)⟩
theorem put_bad (C : List Value) (n a : Int) (A : Option Addr) (c m : Nat) (ps : List Bk.Pr) (w : World) (h : n < 0 ∨ 7 < n) :
    Calls Try.prog 71 #[.agg C.toArray, .int .i64 n, .agg #[.int .i64 a, .slice A m c]] w (PutP w 0 (List.replicate 8 false) ps 2) :=
  (put_bad0 C n a A c m w h).mono fun e w' ⟨he, hb⟩ => by subst he; exact PutP.zero hb
set_option maxRecDepth 100000 in
set_option maxHeartbeats 200000 in
theorem put_nofit0 (C : List Value) (n a : Int) (A : Option Addr) (c m : Nat) (w : World) (h : 0 ≤ n ∧ n ≤ 7) (lo : -9223372036854775808 ≤ a) (hi : a ≤ 9223372036854775807) (hm : m ≤ 9223372036854775807) (hf : Bk.fits a m = false) :
    Calls Try.prog 71 #[.agg C.toArray, .int .i64 n, .agg #[.int .i64 a, .slice A m c]] w fun e w' => e = .returned (.tuple #[.agg z25, .int .i64 20]) ∧ Below w.heap.size w w' := by
  have kn := Lib.hid (fun W => number_any n true W (by simp; omega))
  have kf := Lib.hid (fun W => fits_any a m c A false W lo hi hm hf)
  have HROW := Lib.hid (put_row w C #[.int .i64 a, .slice A m c])
  clear h hf
  go_enter Try.func71, Try.ntmps71
  go_wp2_with fail
  with_reducible refine (kn.out _).mono ?_
  rintro e_ w_ ⟨rfl, rfl⟩
  go_wp2_with fail
  with_reducible refine (kf.out _).mono ?_
  rintro e2 w2 ⟨rfl, hb2⟩
  have HR2 := Lib.hid (HROW.out.to hb2)
  have hbw : Below w.heap.size w w2 := (bel_alloc (bel_alloc (bel_alloc (Below.refl _ _) _) _) _).trans (hb2.mono (by simp; omega))
  clear hb2
  go_wp2_with (refine wpList_store_row rfl 33 (.tmp 6) (.tmp 17) rfl (w.heap.size + 1 + 1) z25 rfl rfl 33 z25 HR2.out size_z25 rfl one_z25 ?_)
  exact bodyPost_ret (results_cell_tmp rfl _ _ (w.heap.size + 1 + 1) 33 z25 (0, 0) _ rfl (RowAt.row HR2.out Stv.zero.C) Try.underlying33 rfl size_z25) rfl ⟨rfl, (below_setRow hbw (by omega) _)⟩
theorem put_nofit (C : List Value) (n a : Int) (A : Option Addr) (c m : Nat) (ps : List Bk.Pr) (w : World) (h : 0 ≤ n ∧ n ≤ 7) (lo : -9223372036854775808 ≤ a) (hi : a ≤ 9223372036854775807) (hm : m ≤ 9223372036854775807) (hf : Bk.fits a m = false) :
    Calls Try.prog 71 #[.agg C.toArray, .int .i64 n, .agg #[.int .i64 a, .slice A m c]] w (PutP w 0 (List.replicate 8 false) ps 20) :=
  (put_nofit0 C n a A c m w h lo hi hm hf).mono fun e w' ⟨he, hb⟩ => by subst he; exact PutP.zero hb
end Go.Proofs.Ytajbghjjpebndaa
namespace Go.Proofs.Ytajbghjjpebndaa
set_option maxRecDepth 100000
open Go.RowKit
set_option linter.unusedVariables false
attribute [local go_sem] Later.cell Later.frozen setCell_twice
theorem put_row0 (w : World) (C : List Value) (X : Array Value) : RowAt (((w.alloc (.cells C.toArray 33)).alloc (.cells X 30)).alloc (.cells z25 33)) w.heap.size 33 C :=
  ((RowAt.new w _ C).alloc _).alloc _
theorem put_row1 (w : World) (C : List Value) (X : List Value) : RowAt (((w.alloc (.cells C.toArray 33)).alloc (.cells X.toArray 30)).alloc (.cells z25 33)) (w.heap.size + 1) 30 X := by
  have := (RowAt.new (w.alloc (.cells C.toArray 33)) 30 X).alloc (.cells z25 33)
  simpa using this
/-- what the loop of Put has done up to number k -/
structure PutAt (w : World) (hs : List Bool) (ps : List Bk.Pr) (k : Nat) (bs : List Blk) (wr : World) : Prop where
  len : bs.length = 8
  ok : ∀ b ∈ bs, b.Ok wr wr.heap.size ∧ b.Apart w.heap.size ∧ b.Apart (w.heap.size + 1 + 1)
  pr : ∀ j b, bs[j]? = some b → (hs.getD j false = true ∨ k ≤ j → b.pr = ps.getD j (0, []))
  no : ∀ j b, bs[j]? = some b → j < k → hs.getD j false = false → b = Blk.zero
  new : ∀ j b, bs[j]? = some b → j < k → ∀ p, b.A = some p → w.heap.size ≤ p.block
section
variable {w wr wr' : World} {hs : List Bool} {ps : List Bk.Pr} {k : Nat} {bs : List Blk}
theorem PutAt.keep (h : PutAt w hs ps k bs wr) (hb : Below wr.heap.size wr wr') : PutAt w hs ps k bs wr' :=
  ⟨h.len, fun b hbm => ⟨(h.ok b hbm).1.to hb, (h.ok b hbm).2⟩, h.pr, h.no, h.new⟩
theorem PutAt.store (h : PutAt w hs ps k bs wr) (i : Nat) (v : Value) : PutAt w hs ps k bs (wr.setCell ⟨w.heap.size, i, none⟩ v) :=
  ⟨h.len, fun b hbm => ⟨by have := (h.ok b hbm).1.setOther (i := i) (v := v) (h.ok b hbm).2.1; simpa using this, (h.ok b hbm).2⟩, h.pr, h.no, h.new⟩
theorem PutAt.step (h : PutAt w hs ps k bs wr) (b' : Blk) (hok : b'.Ok wr wr.heap.size) (ha : b'.Apart w.heap.size) (ha2 : b'.Apart (w.heap.size + 1 + 1)) (hpr : hs.getD k false = true → b'.pr = ps.getD k (0, [])) (hno : hs.getD k false = false → b' = Blk.zero) (hnew : ∀ p, b'.A = some p → w.heap.size ≤ p.block) :
    PutAt w hs ps (k + 1) (bs.set k b') wr := by
  have key : ∀ j b, (bs.set k b')[j]? = some b → (j = k ∧ b = b') ∨ (j ≠ k ∧ bs[j]? = some b) := fun j b hj => by
    rw [List.getElem?_set] at hj
    split at hj
    · rename_i e
      split at hj
      · exact .inl ⟨e.symm, (Option.some.inj hj).symm⟩
      · cases hj
    · rename_i e
      exact .inr ⟨fun e2 => e e2.symm, hj⟩
  refine ⟨by simpa using h.len, fun b hb => ?_, fun j b hj hh => ?_, fun j b hj hjk hh => ?_, fun j b hj hjk => ?_⟩
  · rcases List.mem_or_eq_of_mem_set hb with hb | hb
    · exact h.ok b hb
    · exact hb ▸ ⟨hok, ha, ha2⟩
  · rcases key j b hj with ⟨rfl, rfl⟩ | ⟨hne, hj⟩
    · rcases hh with hh | hh
      · exact hpr hh
      · omega
    · exact h.pr j b hj (hh.imp_right (by omega))
  · rcases key j b hj with ⟨rfl, rfl⟩ | ⟨hne, hj⟩
    · exact hno hh
    · exact h.no j b hj (by omega) hh
  · rcases key j b hj with ⟨rfl, rfl⟩ | ⟨hne, hj⟩
    · exact hnew
    · exact h.new j b hj (by omega)
theorem Blk.Ok.setRowOther {w : World} {B g : Nat} {b : Blk} {D : Array Value} (h : b.Ok w B) (ho : b.Apart g) : b.Ok (w.setRow g D) B :=
  ⟨fun hn => by
    obtain ⟨b', o, hA, hb, hc⟩ := h.sq hn
    exact ⟨b', o, hA, hb, fun j x hx => (World.cell?_of_block (a := ⟨b', o + j, none⟩) (setRow_other w g b' D (ho hn _ hA))).trans (hc j x hx)⟩, h.u, h.lo, h.hi, h.ln, h.cap, h.nl⟩
theorem setRow_size (w : World) (g : Nat) (D : Array Value) : (w.setRow g D).heap.size = w.heap.size := by simp [World.setRow]
end
theorem size_25 : (Try.prog.info? 33).map (·.size) = some 25 := by kernel_rfl
set_option maxRecDepth 100000 in
set_option maxHeartbeats 1000000 in
theorem put_ok (s : Stv) (m : Nat) (x : Blk) (w : World) (hs : s.Ok w w.heap.size) (hx : x.Ok w w.heap.size) (hm : m ≤ 7) (hf : Bk.fits x.a x.ws.length = true) (hl : ∀ b ∈ s.bs, b.ws.length ≤ 35184372088832) (hxl : x.ws.length ≤ 35184372088832) :
    Calls Try.prog 71 #[.agg s.C.toArray, .int .i64 (m : Int), .agg #[.int .i64 x.a, .slice x.A x.ws.length x.c]] w (PutP w s.tx (s.hs.set m true) ((prs s.bs).set m x.pr) 0) := by
  have kn := Lib.hid (fun W => number_any (m : Int) true W (by simp; omega))
  have kf := Lib.hid (fun W => fits_any x.a x.ws.length x.c x.A true W hx.lo hx.hi (Nat.le_trans hx.ln hx.cap) hf)
  have H0 := Lib.hid (put_row0 w s.C #[.int .i64 x.a, .slice x.A x.ws.length x.c])
  have H1 := Lib.hid (put_row1 w s.C [.int .i64 x.a, .slice x.A x.ws.length x.c])
  have H2 := Lib.hid (put_row w s.C #[.int .i64 x.a, .slice x.A x.ws.length x.c])
  obtain ⟨b0, hb0⟩ : ∃ b, s.bs[m]? = some b := ⟨_, List.getElem?_eq_getElem (by rw [hs.lb]; omega)⟩
  obtain ⟨y0, hy0⟩ : ∃ b, s.hs[m]? = some b := ⟨_, List.getElem?_eq_getElem (by rw [hs.lh]; omega)⟩
  have HB0 := Lib.hid hb0
  have HY0 := Lib.hid hy0
  clear hf hb0 hy0
  go_enter Try.func71, Try.ntmps71
  go_wp2_with fail
  with_reducible refine (kn.out _).mono ?_
  rintro e_ w_ ⟨rfl, rfl⟩
  go_wp2_with fail
  with_reducible refine (kf.out _).mono ?_
  rintro e2 w2 ⟨rfl, hb2⟩
  have R0 := H0.out.to hb2
  have R1 := H1.out.to hb2
  have R2 := H2.out.to hb2
  have hbw : Below w.heap.size w w2 := (bel_alloc (bel_alloc (bel_alloc (Below.refl _ _) _) _) _).trans (hb2.mono (by simp; omega))
  have hsz : w.heap.size + 3 ≤ w2.heap.size := by have := hb2.size; simp at this; omega
  have d0 : w2.cell? ⟨w.heap.size + 1, 0, none⟩ = some (.int .i64 x.a) := R1.cell rfl
  have d1 : w2.cell? ⟨w.heap.size + 1, 1, none⟩ = some (.slice x.A x.ws.length x.c) := R1.cell rfl
  have p0 := R0.cell (Stv.C_have HY0.out)
  have p1 := R0.cell (Stv.C_block hs.lh HB0.out).1
  have p2 := R0.cell (Stv.C_block hs.lh HB0.out).2
  have q0 := R0.frozen (1 + m)
  have q1 := R0.frozen (9 + m * 2)
  have q2 := R0.frozen (9 + m * 2 + 1)
  have n1 : ¬ 1 + m = 9 + m * 2 := by omega
  have n2 : ¬ 1 + m = 9 + m * 2 + 1 := by omega
  have n3 : ¬ 9 + m * 2 = 9 + m * 2 + 1 := by omega
  have n4 : (m : Int) < 8 := by omega
  have HH0 := Lib.hid R0
  have HH2 := Lib.hid R2
  clear hb2 R0 R1 R2
  go_wp2
  go_region_held3 (fun w' => w'.cell? ⟨w.heap.size + 1, 0, none⟩ = some (.int .i64 x.a) ∧ w'.cell? ⟨w.heap.size + 1, 1, none⟩ = some (.slice x.A x.ws.length x.c))
    (first | (refine ⟨?_, ?_⟩ <;> exact keep_block (by omega) (keep_block (by omega) (keep_block (by omega) (by assumption)))) | (refine ⟨?_, ?_⟩ <;> exact keep_block (by omega) (by assumption)) | go_keep)
    (fail)
  obtain ⟨w3, hw3⟩ : ∃ w3, w3 = (((w2.setCell ⟨w.heap.size, 1 + m, none⟩ (.bool true)).setCell ⟨w.heap.size, 9 + m * 2, none⟩ (.int .i64 x.a)).setCell ⟨w.heap.size, 9 + m * 2 + 1, none⟩ (.slice x.A x.ws.length x.c)).drew := ⟨_, rfl⟩
  rw [← hw3]
  obtain ⟨s1, hs1⟩ : ∃ s1 : Stv, s1 = ⟨s.tx, s.hs.set m true, s.bs.set m x⟩ := ⟨_, rfl⟩
  have h1h : s1.hs = s.hs.set m true := by rw [hs1]
  have h1b : s1.bs = s.bs.set m x := by rw [hs1]
  have h1t : s1.tx = s.tx := by rw [hs1]
  have h1l : s1.hs.length = 8 := by rw [h1h]; simp [hs.lh]
  have h1lb : s1.bs.length = 8 := by rw [h1b]; simp [hs.lb]
  have K0 : RowAt w3 w.heap.size 33 s1.C := by
    have h := (((HH0.out.set (1 + m) (.bool true)).set (9 + m * 2) (.int .i64 x.a)).set (9 + m * 2 + 1) (.slice x.A x.ws.length x.c)).drew
    rw [Stv.C_have_set true (by rw [hs.lh]; omega), Stv.C_block_set (s := ⟨s.tx, s.hs.set m true, s.bs⟩) (by simp [hs.lh]) x (by rw [hs.lb]; omega)] at h
    rw [hw3, hs1]
    exact h
  have K2 : RowAt w3 (w.heap.size + 1 + 1) 33 Stv.zero.C := by
    rw [hw3]
    exact ((HH2.out.other (by omega) _).other (by omega) _).other (by omega) _
  have hb3 : Below w.heap.size w w3 := by
    rw [hw3]
    exact (((hbw.setCell (by simp) _).setCell (by simp) _).setCell (by simp) _).drew
  have hz3 : w.heap.size + 3 ≤ w3.heap.size := by rw [hw3]; simpa using hsz
  have hP : PutAt w s1.hs (prs s1.bs) 0 s1.bs w3 := by
    have hall : ∀ b ∈ s1.bs, b.Ok w w.heap.size := fun b hb => by
      rw [h1b] at hb
      rcases List.mem_or_eq_of_mem_set hb with hb | hb
      · exact hs.ok b hb
      · exact hb ▸ hx
    exact ⟨h1lb, fun b hb => ⟨(hall b hb).to hb3, (hall b hb).apart (Nat.le_refl _), (hall b hb).apart (by omega)⟩, fun j b hj _ => by rw [List.getD_eq_getElem?_getD, prs_get hj]; rfl, fun j b hj h => absurd h (by omega), fun j b hj h => absurd h (by omega)⟩
  have hl1 : ∀ b ∈ s1.bs, b.ws.length ≤ 35184372088832 := fun b hb => by
    rw [h1b] at hb
    rcases List.mem_or_eq_of_mem_set hb with hb | hb
    · exact hl b hb
    · exact hb ▸ hxl
  have hrng : w3.rangeAt w.heap.size 1 (s1.hs.map Value.bool) := by
    have := K0.range 1 8
    rwa [Stv.C_haves h1l] at this
  have hlen8 : (s1.hs.map Value.bool).length = 8 := by simp [h1l]
  have HG := Lib.hid hrng
  have HZ : Hid ((Try.prog.info? 28).map (·.size) = some (s1.hs.map Value.bool).length) := Lib.hid (by rw [hlen8]; exact size_haves)
  have HK0 := Lib.hid K0
  have HK2 := Lib.hid K2
  have HPP := Lib.hid hP
  have HL1 := Lib.hid hl1
  have HT1 := Lib.hid h1t
  have HH1 := Lib.hid h1h
  have HB1 := Lib.hid h1b
  have HLL := Lib.hid h1l
  have HLB := Lib.hid h1lb
  clear hw3 hs1 K0 K2 hP hl1 hrng hlen8 h1h h1b h1t d0 d1 p0 p1 p2 q0 q1 q2 n1 n2 n3 n4 HH0 HH2 hbw hsz HB0 HY0 H0 H1 H2 kn kf h1l h1lb
  go_wp2_with (refine wpList_load_mid rfl 28 (.tmp 25) rfl w.heap.size 1 rfl (s1.hs.map Value.bool) _ HG.out Try.underlying28 rfl HZ.out ?_)
  go_loopw [27, 8, 9] (fun i _ _ wr => ∃ k : Nat, ∃ bs : List Blk, k ≤ 8 ∧ i = .int .i64 k ∧ PutAt w s1.hs (prs s1.bs) k bs wr ∧ RowAt wr w.heap.size 33 (⟨s1.tx, s1.hs, bs⟩ : Stv).C ∧ RowAt wr (w.heap.size + 1 + 1) 33 Stv.zero.C ∧ Below w.heap.size w wr ∧ w.heap.size + 3 ≤ wr.heap.size) (fun i _ _ _ => 8 - (intOf i).toNat)
  case atStart => exact ⟨0, s1.bs, by omega, rfl, HPP.out, HK0.out, HK2.out, hb3, hz3⟩
  case round =>
    clear hb3 hz3
    obtain ⟨k, bs, hk, rfl, hP, hR, hR2, hbe, hsz⟩ := hrel
    by_cases hlt : k < 8
    · obtain ⟨b, hb⟩ : ∃ b, bs[k]? = some b := ⟨_, List.getElem?_eq_getElem (by rw [hP.len]; exact hlt)⟩
      obtain ⟨y, hy⟩ : ∃ y, s1.hs[k]? = some y := ⟨_, List.getElem?_eq_getElem (by rw [HLL.out]; exact hlt)⟩
      have kx : ∀ w, (Instr.index 28 (.agg (s1.hs.map Value.bool).toArray) (.int .i64 (k : Int))).run Try.prog w = .ok (.bool y) w := index_have _ k _ hlt (by simp [hy])
      have hcb := Stv.C_block (s := ⟨s1.tx, s1.hs, bs⟩) HLL.out hb
      have c0 := hR.cell hcb.1
      have c1 := hR.cell hcb.2
      have f0 := hR.frozen (9 + k * 2)
      have f1 := hR.frozen (9 + k * 2 + 1)
      have hyD : s1.hs.getD k false = y := by rw [List.getD_eq_getElem?_getD, hy]; rfl
      have hbp := hP.pr k b hb (.inr (Nat.le_refl _))
      have hbo := hP.ok b (List.mem_of_getElem? hb)
      have hkl : k < bs.length := by rw [hP.len]; exact hlt
      have HYD := Lib.hid hyD
      have HBP := Lib.hid hbp
      have HP := Lib.hid hP
      have HR := Lib.hid hR
      have HR2 := Lib.hid hR2
      clear hcb hy hb hyD hbp hP hR hR2
      cases y
      · go_wp2
        go_roundw
        case rel =>
          refine ⟨k + 1, bs.set k Blk.zero, by omega, by go_num, ((HP.out.store (9 + k * 2) _).store (9 + k * 2 + 1) _).step Blk.zero (Blk.zero_ok _ _) (fun h => absurd h (by decide)) (fun h => absurd h (by decide)) (fun h => by rw [HYD.out] at h; cases h) (fun _ => rfl) (fun p hp => by cases hp), ?_, ?_, ?_, ?_⟩
          · have h := (HR.out.set (9 + k * 2) (.int .i64 Blk.zero.a)).set (9 + k * 2 + 1) (.slice Blk.zero.A Blk.zero.ws.length Blk.zero.c)
            rw [Stv.C_block_set (s := ⟨s1.tx, s1.hs, bs⟩) HLL.out Blk.zero hkl] at h
            exact h
          · exact (HR2.out.other (by omega) _).other (by omega) _
          · exact (hbe.setCell (by simp) _).setCell (by simp) _
          · simpa using hsz
        case measure => simp [intOf]; omega
      · have hbl : b.ws.length ≤ 35184372088832 := by
          obtain ⟨b1, hb1⟩ : ∃ b1, s1.bs[k]? = some b1 := ⟨_, List.getElem?_eq_getElem (by rw [HLB.out]; exact hlt)⟩
          have h1 := HBP.out
          rw [List.getD_eq_getElem?_getD, prs_get hb1] at h1
          have h2 : b.ws = b1.ws := congrArg Prod.snd h1
          rw [h2]
          exact HL1.out b1 (List.mem_of_getElem? hb1)
        have ko := Lib.hid (own_any b.a b.ws b.A b.c b.ws.length wr rfl hbo.1.sq hbl hbo.1.nl)
        go_wp2_with fail
        (with_reducible refine (ko.out).mono ?_)
        rintro e4 w4 ⟨A4, c4, rfl, o4, hb4⟩
        have hob : (Blk.mk b.a b.ws A4 c4).Ok w4 w4.heap.size := Blk.Ok.of_own rfl o4 hbo.1.u hbo.1.lo hbo.1.hi
        have hAb : ∀ p, A4 = some p → wr.heap.size ≤ p.block := fun p hp => (o4.lt p.block (by rw [hp]; rfl)).1
        have HR4 := Lib.hid (HR.out.to hb4)
        have HR24 := Lib.hid (HR2.out.to hb4)
        have HP4 := Lib.hid (HP.out.keep hb4)
        have hlw : w.heap.size < wr.heap.size := by omega
        replace c0 := (hb4.cell (p := ⟨w.heap.size, 9 + k * 2, none⟩) hlw).trans c0
        replace c1 := (hb4.cell (p := ⟨w.heap.size, 9 + k * 2 + 1, none⟩) hlw).trans c1
        replace f0 := (hb4.frozen (p := ⟨w.heap.size, 9 + k * 2, none⟩) hlw).trans f0
        replace f1 := (hb4.frozen (p := ⟨w.heap.size, 9 + k * 2 + 1, none⟩) hlw).trans f1
        have hbe4 : Below w.heap.size w w4 := hbe.trans (hb4.mono (by omega))
        have hsz4 : w.heap.size + 3 ≤ w4.heap.size := by have := hb4.size; omega
        have HAB := Lib.hid hAb
        clear hbo hAb o4 hb4 hbe ko
        go_wp2
        go_roundw
        case rel =>
          have hA := HAB.out
          have ap1 : (Blk.mk b.a b.ws A4 c4).Apart w.heap.size := fun _ p hp => by have := hA p hp; omega
          have ap2 : (Blk.mk b.a b.ws A4 c4).Apart (w.heap.size + 1 + 1) := fun _ p hp => by have := hA p hp; omega
          have hst := ((HP4.out.store (9 + k * 2) (.int .i64 b.a)).store (9 + k * 2 + 1) (.slice A4 b.ws.length c4)).step ⟨b.a, b.ws, A4, c4⟩ (by have h := (hob.setOther (i := 9 + k * 2) (v := .int .i64 b.a) ap1).setOther (i := 9 + k * 2 + 1) (v := .slice A4 b.ws.length c4) ap1; simpa using h) ap1 ap2 (fun _ => HBP.out) (fun h => by rw [HYD.out] at h; cases h) (fun p hp => by have := hA p hp; omega)
          refine ⟨k + 1, bs.set k ⟨b.a, b.ws, A4, c4⟩, by omega, by go_num, hst, ?_, ?_, ?_, ?_⟩
          · have h := (HR4.out.set (9 + k * 2) (.int .i64 b.a)).set (9 + k * 2 + 1) (.slice A4 b.ws.length c4)
            rw [Stv.C_block_set (s := ⟨s1.tx, s1.hs, bs⟩) HLL.out ⟨b.a, b.ws, A4, c4⟩ hkl] at h
            exact h
          · exact (HR24.out.other (by omega) _).other (by omega) _
          · exact (hbe4.setCell (by simp) _).setCell (by simp) _
          · simpa using hsz4
        case measure => simp [intOf]; omega
    · obtain rfl : k = 8 := by omega
      have hC : (⟨s1.tx, s1.hs, bs⟩ : Stv).C.length = 25 := Stv.C_length HLL.out hP.len
      have HS1 : Hid ((Try.prog.info? 33).map (·.size) = some (⟨s1.tx, s1.hs, bs⟩ : Stv).C.toArray.size) := Lib.hid (by rw [List.size_toArray, hC]; exact size_25)
      have HO : Hid (z25.size = (⟨s1.tx, s1.hs, bs⟩ : Stv).C.toArray.size) := Lib.hid (by show 25 = _; rw [List.size_toArray, hC])
      have HO1 := Lib.hid (all_oneCell_toArray (Stv.C_one ⟨s1.tx, s1.hs, bs⟩))
      have HR := Lib.hid hR
      have HR2 := Lib.hid hR2
      have HP := Lib.hid hP
      clear hC hR hR2 hP
      go_wp2_with (first | (refine wpList_load_row rfl 33 (.tmp 3) rfl w.heap.size rfl 33 _ (0, 0) _ HR.out Try.underlying33 rfl HS1.out ?_) | (refine wpList_store_row rfl 33 (.tmp 6) (.tmp 45) rfl (w.heap.size + 1 + 1) (⟨s1.tx, s1.hs, bs⟩ : Stv).C.toArray rfl rfl 33 z25 HR2.out HS1.out HO.out HO1.out ?_))
      have hfin := RowAt.row HR2.out (⟨s1.tx, s1.hs, bs⟩ : Stv).C
      have hp := HP.out
      refine bodyPost_ret (results_cell_tmp rfl _ _ (w.heap.size + 1 + 1) 33 _ (0, 0) _ rfl hfin Try.underlying33 rfl HS1.out) rfl ⟨⟨s1.tx, s1.hs, bs⟩, rfl, ⟨HLL.out, hp.len, by rw [HT1.out]; exact hs.tx, fun b hb => ?_⟩, HT1.out, HH1.out, fun k b hkb => ⟨fun h => ?_, fun h => ?_, ?_⟩, below_setRow hbe (by omega) _⟩
      · have h := (hp.ok b hb).1.setRowOther (D := (⟨s1.tx, s1.hs, bs⟩ : Stv).C.toArray) (hp.ok b hb).2.2
        rw [setRow_size]
        exact h
      · rw [← HH1.out] at h
        have h2 := hp.pr k b hkb (.inl h)
        rw [h2, HB1.out]
        simp [prs, List.map_set]
      · rw [← HH1.out] at h
        exact hp.no k b hkb (by have := hp.len; have h3 : k < bs.length := (List.getElem?_eq_some_iff.1 hkb).1; omega) h
      · exact hp.new k b hkb (by have := hp.len; have h3 : k < bs.length := (List.getElem?_eq_some_iff.1 hkb).1; omega)
end Go.Proofs.Ytajbghjjpebndaa
namespace Go.Proofs.Ytajbghjjpebndaa
set_option maxRecDepth 100000
open Go.RowKit
set_option linter.unusedVariables false
attribute [local go_sem] Later.cell Later.frozen setCell_twice
/-- the tagged block of a stage -/
def backL (o tx : Nat) (hs : List Bool) (ps : List Bk.Pr) (n : Int) : List Nat :=
  if 0 ≤ n ∧ n < 8 ∧ hs.getD n.toNat false = true then Stg.tagged o tx n.toNat (ps.getD n.toNat (0, [])).1 (ps.getD n.toNat (0, [])).2 else Stg.zs 20
theorem backL_length (o tx : Nat) (hs : List Bool) (ps : List Bk.Pr) (n : Int) : (backL o tx hs ps n).length = 20 := by
  unfold backL
  split
  · exact Stg.tagged_length _ _ _ _ _
  · simp [Stg.zs]
end Go.Proofs.Ytajbghjjpebndaa
