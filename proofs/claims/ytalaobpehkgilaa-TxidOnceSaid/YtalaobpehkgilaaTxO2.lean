/- TxidOnce: operations that came in; numbers opened of records; the disk, the log, and the numbers (a variable) side by side. -/
import Derived.Test.YtalaobpehkgilaaTxOLaw
import Derived.Test.YtalaobpehkgilaaTxAwake
import Derived.Test.YtalaobpehkgilaaOpenRc
import Derived.Test.YtalaobpehkgilaaVarB
namespace Go.Proofs.Ytalaobpehkgilaa
open Go.ChangeShapes Go.WideShapes Go.ChangeAt Go.RowKit Go.Deep
set_option linter.unusedVariables false
theorem size_ids : (Try.prog.info? 37).map (·.size) = some 2 := by kernel_rfl
structure TOp where
  crash : Bool
  keep : Nat
  sparks : Nat
abbrev TOp.C (o : TOp) : List Value := [.bool o.crash, .int .u8 (o.keep : Int), .int .u8 (o.sparks : Int)]
structure TOp.Ok (o : TOp) : Prop where
  keep : o.keep < 256
  sparks : o.sparks < 256
structure TOps (w : World) (B : Nat) (A : Option Addr) (l : List TOp) : Prop where
  rc : Recs TOp.C 3 w B A l
  ok : ∀ b ∈ l, b.Ok
section
variable {w w' : World} {B B' : Nat} {l : List TOp} {A : Option Addr}
theorem TOps.below (h : TOps w B A l) (k : Below B w w') : TOps w' B A l := ⟨h.rc.below k, h.ok⟩
theorem TOps.at_ (h : TOps w B A l) {k : Nat} (hk : k < l.length) : ∃ g o b, A = some ⟨g, o, none⟩ ∧ g < B ∧ l[k]? = some b ∧ b.Ok ∧ ∀ (i : Nat) (v : Value), b.C[i]? = some v → w.cell? ⟨g, o + k * 3 + i, none⟩ = some v := by
  obtain ⟨g, o, b, hA, hg, hb, hc⟩ := h.rc.at_ hk
  exact ⟨g, o, b, hA, hg, hb, h.ok b (List.mem_of_getElem? hb), fun i v hv => by simpa [Nat.add_assoc] using hc i v hv⟩
end
theorem top_trod {H : Type} {enc : TypeId × Value → H} {w : World} {base : Nat} {spare : Nat → Bool} {held : Bool} (n : Nat) (cs : List Value) (y : DataW H × List MemPlace) (h : DataW.trod enc Try.prog w base spare held n 40 cs = some y) : ∃ o : TOp, cs = o.C ∧ o.Ok := by
  obtain ⟨hl, n, hf⟩ := trod_field Try.underlying40 h
  have hC : Try.prog.cellsOf 40 = 3 := by kernel_rfl
  rw [hC] at hl
  match cs, hl with
  | [v0, v1, v2], _ =>
    obtain ⟨y0, h0⟩ := hf 0 _ rfl
    obtain ⟨y1, h1⟩ := hf 1 _ rfl
    obtain ⟨y2, h2⟩ := hf 2 _ rfl
    obtain ⟨a0, rfl⟩ := trod_truth (v := v0) Try.underlying4 h0
    obtain ⟨a1, rfl, b1⟩ := trod_nat (k := .u8) (v := v1) rfl Try.underlying5 h1
    obtain ⟨a2, rfl, b2⟩ := trod_nat (k := .u8) (v := v2) rfl Try.underlying5 h2
    exact ⟨⟨a0, a1, a2⟩, rfl, b1, b2⟩
theorem open_top {H : Type} {enc : TypeId × Value → H} {w : World} {base b0 : Nat} {spare : Nat → Bool} {held : Bool} {r : Reach} {v : Value} {d : DataW H} {ps : List MemPlace} (hval : Value.okWide Try.prog w r b0 23 v) (hd : DataW.Trod enc Try.prog w base spare held 23 v d ps) :
    ∃ (A : Option Addr) (l : List TOp) (c : Nat), v = .slice A l.length c ∧ TOps w w.heap.size A l ∧ l.length ≤ c ∧ c ≤ 9223372036854775807 ∧ (A = none → c = 0) := by
  obtain ⟨A, l, c, h1, h2, h3, h4, h5, h6⟩ := okWide_slice_trod TOp.C (fun b => b.Ok) Try.underlying23 (show Try.prog.cellsOf 40 = 3 by kernel_rfl) (by decide) top_trod hval hd
  exact ⟨A, l, c, h1, ⟨h2, h3⟩, h4, h5, h6⟩
abbrev toRec (x : Rc) : Rec := ⟨x.p.what, x.p.tx, x.p.who, x.p.yes, x.A, x.p.text.length, x.c⟩
theorem recs_toRec {w : World} {B : Nat} {A : Option Addr} {l : List Rc} (h : Recs recK.f 5 w B A l) : Recs Rec.cells 5 w B A (l.map toRec) := fun hn => by
  obtain ⟨b, o, hA, hb, hc⟩ := h (by simpa using hn)
  refine ⟨b, o, hA, hb, fun j x hx i v hv => ?_⟩
  rw [List.getElem?_map, Option.map_eq_some_iff] at hx
  obtain ⟨y, hy, rfl⟩ := hx
  exact hc j y hy i v hv
/-- the numbers opened of reservings -/
theorem tx_open_rc (A : Option Addr) (rs : List Rc) (c m n : Nat) (w : World) (T : List Nat) (hm : rs.length = m) (hr : rs.map Rc.p = T.map rv) (hR : Rcs w w.heap.size A rs) (hlc : m ≤ 100000) (hn : n = max (grT T) 1) :
    Calls Try.prog 7 #[.slice A m c] w fun e w' => e = .returned (.agg #[.int .u32 (n : Int), .int .u32 (n : Int)]) ∧ Below w.heap.size w w' := by
  have h := tx_open_any A (rs.map toRec) c n w (recs_toRec hR.rc) (fun r hr => by
    obtain ⟨x, hx, rfl⟩ := List.mem_map.1 hr
    have := (hR.ok x hx).fit
    exact ⟨this.what, this.tx, this.who⟩) (by rw [List.length_map]; omega) (by
    rw [hn, grT]
    congr 2
    have h1 : (rs.map toRec).map Rec.nums = (rs.map Rc.p).map (fun p => (p.what, p.tx)) := by simp [List.map_map, Function.comp_def, Rec.nums]
    rw [h1, hr, List.map_map]
    rfl)
  rw [List.length_map, hm] at h
  exact h
theorem tx_take_next (n n1 e : Nat) (w : World) (h1 : n1 = n + 1) (hn : n < 4294967295) (h : n < e) :
    Calls Try.prog 11 #[.agg #[.int .u32 (n : Int), .int .u32 (e : Int)]] w fun en w' => en = .returned (.tuple #[.agg #[.int .u32 (n1 : Int), .int .u32 (e : Int)], .int .u32 (n : Int), .int .i64 0]) ∧ Below w.heap.size w w' := by
  subst h1
  exact tx_take_one n e w hn h
theorem tx_take_top (n e : Nat) (w : World) (h1 : n = 4294967295) :
    Calls Try.prog 11 #[.agg #[.int .u32 (n : Int), .int .u32 (e : Int)]] w fun en w' => en = .returned (.tuple #[.agg #[.int .u32 (n : Int), .int .u32 (e : Int)], .int .u32 0, .int .i64 241]) ∧ Below w.heap.size w w' := by
  subst h1
  exact tx_take_spent e w
abbrev idC (N E : Nat) : List Value := [.int .u32 (N : Int), .int .u32 (E : Int)]
theorem idC_one (N E : Nat) : ∀ v ∈ idC N E, v.oneCell' = true := by
  intro v hv
  simp only [idC, List.mem_cons, List.not_mem_nil, or_false] at hv
  rcases hv with rfl | rfl <;> rfl
structure Tx3 (w : World) (gd gl gx : Nat) (D : Dk) (Ad : Option Addr) (cd : Nat) (N E : Nat) : Prop where
  dk : DkAt w gd gd Ad cd D
  lg : LogAt w gl gd
  xr : RowAt w gx 37 (idC N E)
  ld : gl ≠ gd
  xd : gx ≠ gd
  lx : gl ≠ gx
  agl : ∀ p, Ad = some p → p.block ≠ gl
  agx : ∀ p, Ad = some p → p.block ≠ gx
section
variable {w w' : World} {gd gl gl' gx cd cd' N E N' E' : Nat} {D D' : Dk} {Ad Ad' : Option Addr}
theorem Tx3.to (h : Tx3 w gd gl gx D Ad cd N E) (k : Below w.heap.size w w') : Tx3 w' gd gl gx D Ad cd N E := ⟨h.dk.to k, h.lg.to k, h.xr.to k, h.ld, h.xd, h.lx, h.agl, h.agx⟩
theorem Tx3.moves (h : Tx3 w gd gl gx D Ad cd N E) (k : Moves gd Ad w w') (hd : DkAt w' gd gd Ad' cd' D') (fr : Ad' = Ad ∨ ∀ p, Ad' = some p → w.heap.size ≤ p.block) : Tx3 w' gd gl gx D' Ad' cd' N E := by
  have h1 := h.lg.lt
  have h2 := h.xr.lt
  refine ⟨hd, k.row h.lg h.ld h.agl, k.row h.xr h.xd h.agx, h.ld, h.xd, h.lx, fun p hp => ?_, fun p hp => ?_⟩
  · rcases fr with f | f
    · exact h.agl p (f.symm.trans hp)
    · have := f p hp; omega
  · rcases fr with f | f
    · exact h.agx p (f.symm.trans hp)
    · have := f p hp; omega
theorem Tx3.store (h : Tx3 w gd gl gx D Ad cd N E) (k : Only gx w w') (hr : RowAt w' gx 37 (idC N' E')) : Tx3 w' gd gl gx D Ad cd N' E' :=
  ⟨h.dk.other k h.xd h.agx, h.lg.only k h.lx, hr, h.ld, h.xd, h.lx, h.agl, h.agx⟩
theorem Tx3.log (h : Tx3 w gd gl gx D Ad cd N E) (hl : LogAt w gl' gd) (h1 : gl' ≠ gd) (h2 : gl' ≠ gx) (h3 : ∀ p, Ad = some p → p.block ≠ gl') : Tx3 w gd gl' gx D Ad cd N E := ⟨h.dk, hl, h.xr, h1, h.xd, h2, h3, h.agx⟩
theorem Tx3.moved (h : Tx3 w gd gl gx D Ad cd N E) (k : Moves gd Ad w w') {b : Nat} (hb : b ≤ gd) : Below b w w' := (h.dk.moves k).mono hb
end
theorem Dk.lopen_new (r : Nat) : (Dk.new r).lopen = (Dk.new r, [], 0) := by
  unfold Dk.lopen
  rw [show Nr.read (Dk.new r).l = ([], 0) from Nr.read_nil]
  rfl
theorem once_first (t : Nat) : ∃ D1, (Dk.new 8000).lappend (rv t) = (D1, 0) ∧ D1.Has ([t].map rv) ∧ D1.room = 8000 := by
  have h := Dk.lappend_free (D := Dk.new 8000) rfl rfl (rv t)
  rw [if_pos (rv_right t), if_neg (by rw [rv_size]; decide)] at h
  have hr := Dk.lappend_room (Dk.new 8000) (rv t)
  have hh := Dk.lappend_has (Dk.has_new 8000) (rv t)
  have h0 : ((Dk.new 8000).lappend (rv t)).2 = 0 := by rw [h]
  refine ⟨_, Prod.ext rfl h0, ?_, hr⟩
  rcases hh with ⟨_, _, h1⟩ | ⟨h1, _⟩ | ⟨h1, _⟩
  · exact h1
  · rw [h0] at h1; cases h1
  · rw [h0] at h1; rcases h1 with h1 | h1 <;> cases h1
theorem run_min2n {P : Program} (w : World) (ts : Array TypeId) (t : TypeId) (x y n : Nat) (h : n = min x y) :
    (Builtin.min_ ts t #[.int .i64 (x : Int), .int .i64 (y : Int)]).run P w = .ok (.int .i64 (n : Int)) w := by
  subst h
  simp [Builtin.min_, Builtin.min2]
  repeat split
  all_goals omega
theorem run_max2n {P : Program} (w : World) (ts : Array TypeId) (t : TypeId) (x y n : Nat) (h : n = max x y) :
    (Builtin.max_ ts t #[.int .i64 (x : Int), .int .i64 (y : Int)]).run P w = .ok (.int .i64 (n : Int)) w := by
  subst h
  simp [Builtin.max_, Builtin.max2]
  repeat split
  all_goals omega
theorem min_top {N m : Nat} (hN : N < 4294967295) (hm : m = min (N + 16) 4294967295) : m < 4294967296 ∧ N < m := by omega
theorem sliced_zero (a : Option Addr) (h m s : Nat) : sliced a 0 h m s = .slice a h m := by
  unfold sliced
  rw [Nat.zero_mul, Nat.sub_zero, Nat.sub_zero]
  cases a with
  | none => simp
  | some p => split <;> rfl
end Go.Proofs.Ytalaobpehkgilaa
