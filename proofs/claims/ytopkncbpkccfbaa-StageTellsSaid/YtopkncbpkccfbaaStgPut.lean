/- The walk of stage.Put. -/
import Derived.Test.YtopkncbpkccfbaaStv
namespace Go.Proofs.Ytopkncbpkccfbaa
open Go.RowKit
set_option linter.unusedVariables false
attribute [local go_sem] Later.cell Later.frozen setCell_twice
theorem results_cell_tmp {P : Program} {fn : Func} {p q : Tmp} {ty : TypeId} (h : fn.results = #[.cell p ty, .tmp q]) (tmps : Array Value) (w : World) (g : Nat) (t : TypeId) (cs : Array Value) (fr : Nat × Nat) (d : TypeDesc)
    (hp : tmps.getD p undef = .pointer (some ⟨g, 0, none⟩)) (hg : w.heap[g]? = some (.cells cs t fr))
    (hu : P.underlying ty = some d) (hd : (match d with | .struct _ | .array _ _ => true | _ => false) = true) (hi : (P.info? ty).map (·.size) = some cs.size) :
    (results fn tmps).run P w = .ok (.tuple #[.agg cs, tmps.getD q undef]) w := by
  have hp' : tmps[p]?.getD undef = .pointer (some ⟨g, 0, none⟩) := by simpa using hp
  simp [results, h, hp', asAddr, run_loadVar_row w g t ty cs fr d hg hu hd hi]
abbrev Blk.zero : Blk := ⟨0, [], none, 0⟩
def Stv.zero : Stv := ⟨0, List.replicate 8 false, List.replicate 8 Blk.zero⟩
theorem Blk.zero_ok (w : World) (B : Nat) : Blk.zero.Ok w B := ⟨Sq.nil, by simp, by decide, by decide, by decide, by decide, fun _ => rfl⟩
theorem Stv.zero_ok (w : World) (B : Nat) : Stv.zero.Ok w B := ⟨by decide, by decide, by decide, fun b hb => by rw [List.eq_of_mem_replicate hb]; exact Blk.zero_ok w B⟩
/-- its words lie in no block g -/
def Blk.Apart (g : Nat) (b : Blk) : Prop := 0 < b.ws.length → ∀ p, b.A = some p → p.block ≠ g
theorem Blk.Ok.apart {w : World} {B g : Nat} {b : Blk} (h : b.Ok w B) (hg : B ≤ g) : b.Apart g := fun hn p hp => by
  obtain ⟨b', o, hA, hb, _⟩ := h.sq hn
  rw [hA] at hp
  obtain rfl := Option.some.inj hp
  simp only
  omega
theorem Blk.Ok.setOther {w : World} {B g i : Nat} {b : Blk} {v : Value} (h : b.Ok w B) (ho : b.Apart g) : b.Ok (w.setCell ⟨g, i, none⟩ v) B :=
  ⟨fun hn => by
    obtain ⟨b', o, hA, hb, hc⟩ := h.sq hn
    exact ⟨b', o, hA, hb, fun j x hx => keep_block (ho hn _ hA).symm (hc j x hx)⟩, h.u, h.lo, h.hi, h.ln, h.cap, h.nl⟩
theorem set_set_length {α : Type} (l : List α) (i : Nat) (x : α) : (l.set i x).length = l.length := by simp
/-- the cells behind what is written -/
theorem Stv.C_have_set {s : Stv} {k : Nat} (x : Bool) (h : k < s.hs.length) : s.C.set (1 + k) (.bool x) = (⟨s.tx, s.hs.set k x, s.bs⟩ : Stv).C := by
  unfold Stv.C
  rw [Nat.add_comm, List.set_cons_succ, List.set_append_left _ _ (by simpa using h), List.map_set]
theorem Stv.C_block_set {s : Stv} (h1 : s.hs.length = 8) {k : Nat} (b : Blk) (h : k < s.bs.length) : (s.C.set (9 + k * 2) (.int .i64 b.a)).set (9 + k * 2 + 1) (.slice b.A b.ws.length b.c) = (⟨s.tx, s.hs, s.bs.set k b⟩ : Stv).C := by
  unfold Stv.C
  rw [show 9 + k * 2 = (8 + k * 2) + 1 by omega, List.set_cons_succ, show 8 + k * 2 + 1 + 1 = (8 + (k * 2 + 1)) + 1 by omega, List.set_cons_succ, List.set_append_right _ _ (by simp; omega), List.set_append_right _ _ (by simp; omega)]
  have e1 : 8 + k * 2 - (s.hs.map Value.bool).length = k * 2 := by simp; omega
  have e2 : 8 + (k * 2 + 1) - (s.hs.map Value.bool).length = k * 2 + 1 := by simp; omega
  rw [e1, e2, flat_set b h]
/-- what Put hands back -/
def PutP (w : World) (tx : Nat) (hs : List Bool) (ps : List Bk.Pr) (E : Int) (e : Ending) (w' : World) : Prop :=
  ∃ s' : Stv, e = .returned (.tuple #[.agg s'.C.toArray, .int .i64 E]) ∧ s'.Ok w' w'.heap.size ∧ s'.tx = tx ∧ s'.hs = hs ∧ (∀ k b, s'.bs[k]? = some b → (hs.getD k false = true → b.pr = ps.getD k (0, [])) ∧ (hs.getD k false = false → b = Blk.zero) ∧ ∀ p, b.A = some p → w.heap.size ≤ p.block) ∧ Below w.heap.size w w'
theorem PutP.zero {w w' : World} {ps : List Bk.Pr} {E : Int} (hb : Below w.heap.size w w') : PutP w 0 (List.replicate 8 false) ps E (.returned (.tuple #[.agg Stv.zero.C.toArray, .int .i64 E])) w' :=
  ⟨Stv.zero, rfl, Stv.zero_ok _ _, rfl, rfl, (fun k b hk => by
    have hb0 : b = Blk.zero := List.eq_of_mem_replicate (List.mem_of_getElem? hk)
    refine ⟨fun h => ?_, fun _ => hb0, fun p hp => by rw [hb0] at hp; cases hp⟩
    rw [List.getD_eq_getElem?_getD] at h
    cases hg : (List.replicate 8 false)[k]? with
    | none => rw [hg] at h; cases h
    | some x => rw [hg] at h; rw [List.eq_of_mem_replicate (List.mem_of_getElem? hg)] at h; cases h), hb⟩
abbrev z25 : Array Value := #[.int .u32 0, .bool false, .bool false, .bool false, .bool false, .bool false, .bool false, .bool false, .bool false, .int .i64 0, .slice none 0 0, .int .i64 0, .slice none 0 0, .int .i64 0, .slice none 0 0, .int .i64 0, .slice none 0 0, .int .i64 0, .slice none 0 0, .int .i64 0, .slice none 0 0, .int .i64 0, .slice none 0 0, .int .i64 0, .slice none 0 0]
theorem size_z25 : (Try.prog.info? 42).map (·.size) = some z25.size := by kernel_rfl
theorem one_z25 : z25.all (·.oneCell') = true := by kernel_rfl
theorem z25_eq : Stv.zero.C.toArray = z25 := rfl
theorem put_row (w : World) (C : List Value) (X : Array Value) : RowAt (((w.alloc (.cells C.toArray 42)).alloc (.cells X 26)).alloc (.cells z25 42)) (w.heap.size + 1 + 1) 42 Stv.zero.C := by
  have := heap_alloc_new ((w.alloc (.cells C.toArray 42)).alloc (.cells X 26)) (.cells z25 42)
  simpa [RowAt, z25_eq] using this
set_option maxRecDepth 100000 in
set_option maxHeartbeats 200000 in
theorem put_bad0 (C : List Value) (n a : Int) (A : Option Addr) (c m : Nat) (w : World) (h : n < 0 ∨ 7 < n) :
    Calls Try.prog 15 #[.agg C.toArray, .int .i64 n, .agg #[.int .i64 a, .slice A m c]] w fun e w' => e = .returned (.tuple #[.agg z25, .int .i64 2]) ∧ Below w.heap.size w w' := by
  have kn := Lib.hid (fun W => number_any n false W (by simp; omega))
  have HROW := Lib.hid (put_row w C #[.int .i64 a, .slice A m c])
  clear h
  go_enter Try.func15, Try.ntmps15
  go_wp2_with fail
  with_reducible refine (kn.out _).mono ?_
  rintro e_ w_ ⟨rfl, rfl⟩
  go_wp2_with (refine wpList_store_row rfl 42 (.tmp 6) (.tmp 13) rfl (w.heap.size + 1 + 1) z25 rfl rfl 42 z25 HROW.out size_z25 rfl one_z25 ?_)
  exact bodyPost_ret (results_cell_tmp rfl _ _ (w.heap.size + 1 + 1) 42 z25 (0, 0) _ rfl (RowAt.row HROW.out Stv.zero.C) Try.underlying42 rfl size_z25) rfl ⟨rfl, (below_setRow (bel_alloc (bel_alloc (bel_alloc (Below.refl _ _) _) _) _) (by omega) _)⟩
theorem put_bad (C : List Value) (n a : Int) (A : Option Addr) (c m : Nat) (ps : List Bk.Pr) (w : World) (h : n < 0 ∨ 7 < n) :
    Calls Try.prog 15 #[.agg C.toArray, .int .i64 n, .agg #[.int .i64 a, .slice A m c]] w (PutP w 0 (List.replicate 8 false) ps 2) :=
  (put_bad0 C n a A c m w h).mono fun e w' ⟨he, hb⟩ => by subst he; exact PutP.zero hb
set_option maxRecDepth 100000 in
set_option maxHeartbeats 200000 in
theorem put_nofit0 (C : List Value) (n a : Int) (A : Option Addr) (c m : Nat) (w : World) (h : 0 ≤ n ∧ n ≤ 7) (lo : -9223372036854775808 ≤ a) (hi : a ≤ 9223372036854775807) (hm : m ≤ 9223372036854775807) (hf : Bk.fits a m = false) :
    Calls Try.prog 15 #[.agg C.toArray, .int .i64 n, .agg #[.int .i64 a, .slice A m c]] w fun e w' => e = .returned (.tuple #[.agg z25, .int .i64 20]) ∧ Below w.heap.size w w' := by
  have kn := Lib.hid (fun W => number_any n true W (by simp; omega))
  have kf := Lib.hid (fun W => fits_any a m c A false W lo hi hm hf)
  have HROW := Lib.hid (put_row w C #[.int .i64 a, .slice A m c])
  clear h hf
  go_enter Try.func15, Try.ntmps15
  go_wp2_with fail
  with_reducible refine (kn.out _).mono ?_
  rintro e_ w_ ⟨rfl, rfl⟩
  go_wp2_with fail
  with_reducible refine (kf.out _).mono ?_
  rintro e2 w2 ⟨rfl, hb2⟩
  have HR2 := Lib.hid (HROW.out.to hb2)
  have hbw : Below w.heap.size w w2 := (bel_alloc (bel_alloc (bel_alloc (Below.refl _ _) _) _) _).trans (hb2.mono (by simp; omega))
  clear hb2
  go_wp2_with (refine wpList_store_row rfl 42 (.tmp 6) (.tmp 17) rfl (w.heap.size + 1 + 1) z25 rfl rfl 42 z25 HR2.out size_z25 rfl one_z25 ?_)
  exact bodyPost_ret (results_cell_tmp rfl _ _ (w.heap.size + 1 + 1) 42 z25 (0, 0) _ rfl (RowAt.row HR2.out Stv.zero.C) Try.underlying42 rfl size_z25) rfl ⟨rfl, (below_setRow hbw (by omega) _)⟩
theorem put_nofit (C : List Value) (n a : Int) (A : Option Addr) (c m : Nat) (ps : List Bk.Pr) (w : World) (h : 0 ≤ n ∧ n ≤ 7) (lo : -9223372036854775808 ≤ a) (hi : a ≤ 9223372036854775807) (hm : m ≤ 9223372036854775807) (hf : Bk.fits a m = false) :
    Calls Try.prog 15 #[.agg C.toArray, .int .i64 n, .agg #[.int .i64 a, .slice A m c]] w (PutP w 0 (List.replicate 8 false) ps 20) :=
  (put_nofit0 C n a A c m w h lo hi hm hf).mono fun e w' ⟨he, hb⟩ => by subst he; exact PutP.zero hb
end Go.Proofs.Ytopkncbpkccfbaa
