/- An api.Agent by value, opened: any agent at all. -/
import Derived.Test.YtajbghjjpebndaaQ29
import Derived.Test.YtajbghjjpebndaaQ19
namespace Go.Proofs.Ytajbghjjpebndaa
set_option maxRecDepth 100000
open Go.RowKit Go.ChangeShapes Go.WideShapes Go.ChangeAt Go.Joins Go.Deep
set_option linter.unusedVariables false
/-- an agent as it comes in -/
structure AgRaw (A : Option Addr) (c : Nat) (s : Stv) (g : Ag) (w : World) : Prop where
  sq : Sq u16w w w.heap.size A g.bank
  nl : A = none → c = 0
  len : g.bank.length ≤ c
  cap : c ≤ 9223372036854775807
  u : ∀ x ∈ g.bank, x < 65536
  ok : s.Ok w w.heap.size
  stx : s.tx = g.stx
  S : s.S = g.S
  o : g.l.o < 65536
  l : -9223372036854775808 ≤ g.l.l ∧ g.l.l ≤ 9223372036854775807
  ph : g.ph < 256
  tx : g.tx < 4294967296
  la : g.la < 4294967296
  tk : -9223372036854775808 ≤ g.tk ∧ g.tk ≤ 9223372036854775807
theorem AgRaw.is {A : Option Addr} {c : Nat} {s : Stv} {g : Ag} {w : World} (h : AgRaw A c s g w) (hb : g.bank.length ≤ 100) (hl : ∀ b ∈ s.bs, b.ws.length ≤ 100) : AgIs A c s g w 0 :=
  ⟨h.sq, fun _ _ => Nat.zero_le _, h.nl, h.len, h.cap, by omega, h.u, ⟨h.ok, h.stx, h.S, fun _ _ _ _ => Nat.zero_le _, fun b hb => by have := hl b hb; omega⟩, h.o, h.l, h.ph, h.tx, h.la, h.tk⟩
theorem AgRaw.to {A : Option Addr} {c : Nat} {s : Stv} {g : Ag} {w w' : World} (h : AgRaw A c s g w) (k : Below w.heap.size w w') : AgRaw A c s g w' :=
  ⟨(h.sq.below k).more k.size, h.nl, h.len, h.cap, h.u, h.ok.to k, h.stx, h.S, h.o, h.l, h.ph, h.tx, h.la, h.tk⟩
theorem take_drop (cs : List Value) (i n : Nat) : cs.drop i = (cs.drop i).take n ++ cs.drop (i + n) := by
  rw [← List.drop_drop, List.take_append_drop]
section
variable {H : Type} {enc : TypeId × Value → H} {w : World} {base b0 : Nat} {spare : Nat → Bool} {held : Bool} {r : Reach}
theorem lease_trod (n : Nat) (cs : List Value) (y : DataW H × List MemPlace) (h : DataW.trod enc Try.prog w base spare held n 26 cs = some y) : ∃ L : Ls.L, cs = [.int .u16 (L.o : Int), .int .i64 L.l] ∧ L.o < 65536 ∧ -9223372036854775808 ≤ L.l ∧ L.l ≤ 9223372036854775807 := by
  obtain ⟨hl, n, hf⟩ := trod_field Try.underlying26 h
  have hC : Try.prog.cellsOf 26 = 2 := by kernel_rfl
  rw [hC] at hl
  match cs, hl with
  | [v0, v1], _ =>
    obtain ⟨y0, h0⟩ := hf 0 _ rfl
    obtain ⟨y1, h1⟩ := hf 1 _ rfl
    obtain ⟨a0, rfl, b0⟩ := trod_u16 (v := v0) h0
    obtain ⟨a1, rfl, b1, b2⟩ := trod_i64 (v := v1) Try.underlying3 h1
    exact ⟨⟨a0, a1⟩, rfl, b0, b1, b2⟩
theorem agent_trod (n : Nat) (cs : List Value) (y : DataW H × List MemPlace) (h : DataW.trod enc Try.prog w base spare held n 35 cs = some y) : ∃ (A : Option Addr) (c : Nat) (s : Stv) (g : Ag), cs = agC A c s g ∧ AgRaw A c s g w := by
  obtain ⟨hl, n, hf⟩ := trod_field Try.underlying35 h
  have hC : Try.prog.cellsOf 35 = 32 := by kernel_rfl
  have hC0 : Try.prog.cellsOf 22 = 1 := by kernel_rfl
  have hC1 : Try.prog.cellsOf 26 = 2 := by kernel_rfl
  have hC2 : Try.prog.cellsOf 5 = 1 := by kernel_rfl
  have hC3 : Try.prog.cellsOf 27 = 1 := by kernel_rfl
  have hC5 : Try.prog.cellsOf 33 = 25 := by kernel_rfl
  have hC6 : Try.prog.cellsOf 3 = 1 := by kernel_rfl
  rw [hC] at hl
  obtain ⟨y0, h0⟩ := hf 0 _ rfl
  obtain ⟨y1, h1⟩ := hf 1 _ rfl
  obtain ⟨y2, h2⟩ := hf 2 _ rfl
  obtain ⟨y3, h3⟩ := hf 3 _ rfl
  obtain ⟨y4, h4⟩ := hf 4 _ rfl
  obtain ⟨y5, h5⟩ := hf 5 _ rfl
  obtain ⟨y6, h6⟩ := hf 6 _ rfl
  replace h0 : DataW.trod enc Try.prog w base spare held n 22 ((cs.drop 0).take (Try.prog.cellsOf 22)) = some y0 := h0
  replace h1 : DataW.trod enc Try.prog w base spare held n 26 ((cs.drop 1).take (Try.prog.cellsOf 26)) = some y1 := h1
  replace h2 : DataW.trod enc Try.prog w base spare held n 5 ((cs.drop 3).take (Try.prog.cellsOf 5)) = some y2 := h2
  replace h3 : DataW.trod enc Try.prog w base spare held n 27 ((cs.drop 4).take (Try.prog.cellsOf 27)) = some y3 := h3
  replace h4 : DataW.trod enc Try.prog w base spare held n 27 ((cs.drop 5).take (Try.prog.cellsOf 27)) = some y4 := h4
  replace h5 : DataW.trod enc Try.prog w base spare held n 33 ((cs.drop 6).take (Try.prog.cellsOf 33)) = some y5 := h5
  replace h6 : DataW.trod enc Try.prog w base spare held n 3 ((cs.drop 31).take (Try.prog.cellsOf 3)) = some y6 := h6
  rw [hC0] at h0
  rw [hC1] at h1
  rw [hC2] at h2
  rw [hC3] at h3 h4
  rw [hC5] at h5
  rw [hC6] at h6
  have one : ∀ k, k < 32 → ∃ v, (cs.drop k).take 1 = [v] := fun k hk => List.length_eq_one_iff.1 (by rw [List.length_take, List.length_drop, hl]; omega)
  obtain ⟨v0, e0⟩ := one 0 (by decide)
  obtain ⟨v3, e3⟩ := one 3 (by decide)
  obtain ⟨v4, e4⟩ := one 4 (by decide)
  obtain ⟨v5, e5⟩ := one 5 (by decide)
  obtain ⟨v6, e6⟩ := one 31 (by decide)
  rw [e0] at h0
  rw [e3] at h2
  rw [e4] at h3
  rw [e5] at h4
  rw [e6] at h6
  obtain ⟨A, l, c, z0, a1, a2, a3, a4, a5⟩ := words_trod (cs := [v0]) Try.underlying22 Try.underlying24 (by kernel_rfl) _ _ h0
  obtain rfl : v0 = .slice A l.length c := by simpa using z0
  obtain ⟨L, e1, b1, b2, b3⟩ := lease_trod _ _ _ h1
  obtain ⟨ph, rfl, c1⟩ := trod_u8 (v := v3) h2
  obtain ⟨tx, rfl, c2⟩ := trod_u32 (v := v4) h3
  obtain ⟨la, rfl, c3⟩ := trod_u32 (v := v5) h4
  obtain ⟨s, e7, hs⟩ := stage_trod _ _ _ h5
  obtain ⟨tk, rfl, d1, d2⟩ := trod_i64 (v := v6) Try.underlying3 h6
  refine ⟨A, c, s, ⟨l, L, ph, tx, la, s.tx, s.S, tk⟩, ?_, a1, a5, a3, a4, a2, hs, rfl, rfl, b1, ⟨b2, b3⟩, c1, c2, c3, ⟨d1, d2⟩⟩
  have f6 : cs.drop 31 = [.int .i64 tk] := by rw [← e6]; exact (List.take_of_length_le (by rw [List.length_drop]; omega)).symm
  have f5 := take_drop cs 6 25
  rw [e7, f6] at f5
  have f4 := take_drop cs 5 1
  rw [e5, f5] at f4
  have f3 := take_drop cs 4 1
  rw [e4, f4] at f3
  have f2 := take_drop cs 3 1
  rw [e3, f3] at f2
  have f1 := take_drop cs 1 2
  rw [e1, f2] at f1
  have f0 := take_drop cs 0 1
  rw [e0, f1, List.drop_zero] at f0
  rw [f0]
  rfl
theorem open_agent {v : Value} {d : DataW H} {ps : List MemPlace} (hval : Value.okWide Try.prog w r b0 35 v) (hd : DataW.Trod enc Try.prog w base spare held 35 v d ps) :
    ∃ (A : Option Addr) (c : Nat) (s : Stv) (g : Ag), v = .agg (agC A c s g).toArray ∧ AgRaw A c s g w := by
  obtain ⟨cs, rfl, _⟩ := okWide_struct Try.underlying35 hval
  obtain ⟨fuel, hf⟩ := hd
  obtain ⟨A, c, s, g, hs, hok⟩ := agent_trod _ _ _ hf
  exact ⟨A, c, s, g, by rw [← hs]; rfl, hok⟩
end
end Go.Proofs.Ytajbghjjpebndaa
