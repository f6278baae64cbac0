/- Layer 19: the reference's Read, whole; both Puts, whole; Light, Few. Layer 19: Words and Read, of both, by what they hand back. StageTells: what is too long, or too much. An api.Stage by value, opened: of which transaction, what is there, its blocks. StageTells: the walk. StageTells: for every input. Plain law of leases: no program in sight. Plain law of agents: no program in sight. -/
import Derived.Test.YtajbghjjpebndaaQ15
import Derived.Test.YtajbghjjpebndaaQ16
import Derived.Test.YtajbghjjpebndaaQ14
import Derived.Test.YtajbghjjpebndaaQ11
import Derived.Test.YtajbghjjpebndaaQ12
import Derived.OpenShut
import Derived.Lib.SmallJoins
import Derived.Test.YtajbghjjpebndaaQ17
import Derived.Test.YtajbghjjpebndaaQ08
import Derived.BigRegion
import Derived.Test.YtajbghjjpebndaaQ13
namespace Go.Proofs.Ytajbghjjpebndaa
set_option maxRecDepth 100000
open Go.RowKit
set_option linter.unusedVariables false
set_option linter.unusedSimpArgs false
attribute [local go_sem] Later.cell Later.frozen setCell_twice
/-- what Put hands back, and its error -/
def putE (tx : Nat) (S : SS) (n : Int) (x : Blk) : Nat × SS × Int :=
  if n < 0 ∨ 7 < n then (0, ss0, 2) else if Bk.fits x.a x.ws.length = true then (tx, S.set n.toNat (some x.pr), 0) else (0, ss0, 20)
def PutE (w : World) (r : Nat × SS × Int) (e : Ending) (w' : World) : Prop :=
  ∃ s' : Stv, e = .returned (.tuple #[.agg s'.C.toArray, .int .i64 r.2.2]) ∧ s'.Is w' w.heap.size r.1 r.2.1 ∧ Below w.heap.size w w'
theorem put_all {s : Stv} {base tx : Nat} {S : SS} (n : Int) (x : Blk) (w : World) (hs : s.Is w base tx S) (hx : x.Ok w w.heap.size) :
    Calls Try.prog 71 #[.agg s.C.toArray, .int .i64 n, .agg #[.int .i64 x.a, .slice x.A x.ws.length x.c]] w (PutE w (putE tx S n x)) := by
  unfold putE
  by_cases h : n < 0 ∨ 7 < n
  · rw [if_pos h]
    exact (put_bad0 s.C n x.a x.A x.c x.ws.length w h).mono fun e w' ⟨he, hb⟩ => ⟨Stv.zero, he, Stv.zero_is _ _, hb⟩
  rw [if_neg h]
  cases hf : Bk.fits x.a x.ws.length
  · rw [if_neg (by simp)]
    exact (put_nofit0 s.C n x.a x.A x.c x.ws.length w (by omega) hx.lo hx.hi (Nat.le_trans hx.ln hx.cap) hf).mono fun e w' ⟨he, hb⟩ => ⟨Stv.zero, he, Stv.zero_is _ _, hb⟩
  · rw [if_pos rfl]
    obtain ⟨m, rfl⟩ : ∃ m : Nat, n = (m : Int) := ⟨n.toNat, by omega⟩
    exact (put_S m x w hs hx (by omega) hf).mono fun e w' ⟨s', he, hi, hb⟩ => ⟨s', he, by rw [Int.toNat_natCast]; exact hi, hb⟩
theorem rput_all {s : Stv} {base tx : Nat} {S : SS} (n : Int) (x : Blk) (w : World) (hs : s.Is w base tx S) (hx : x.Ok w w.heap.size) :
    Calls Try.prog 63 #[.agg s.C.toArray, .int .i64 n, .agg #[.int .i64 x.a, .slice x.A x.ws.length x.c]] w (PutE w (putE tx S n x)) := by
  unfold putE
  by_cases h : n < 0 ∨ 7 < n
  · rw [if_pos h]
    exact (rput_bad s.C n x.a x.A x.c x.ws.length w h).mono fun e w' ⟨he, hb⟩ => ⟨Stv.zero, he, Stv.zero_is _ _, hb⟩
  rw [if_neg h]
  cases hf : Bk.fits x.a x.ws.length
  · rw [if_neg (by simp)]
    exact (rput_nofit s.C n x.a x.A x.c x.ws.length w (by omega) hx.lo hx.hi (Nat.le_trans hx.ln hx.cap) hf).mono fun e w' ⟨he, hb⟩ => ⟨Stv.zero, he, Stv.zero_is _ _, hb⟩
  · rw [if_pos rfl]
    obtain ⟨m, rfl⟩ : ∃ m : Nat, n = (m : Int) := ⟨n.toNat, by omega⟩
    exact (rput_S m x w hs hx (by omega) hf).mono fun e w' ⟨s', he, hi, hb⟩ => ⟨s', he, by rw [Int.toNat_natCast]; exact hi, hb⟩
def light (l : List Blk) : Bool := decide ((∀ b ∈ l, b.ws.length ≤ 100) ∧ l.length ≤ 40)
set_option maxHeartbeats 400000 in
theorem light_any (A : Option Addr) (l : List Blk) (c n : Nat) (r : Bool) (w : World) (hn : l.length = n) (h : Blks w w.heap.size A l) (hnc : n ≤ c) (hc : c ≤ 9223372036854775807) (hr : light l = r) :
    Calls Try.prog 18 #[.slice A n c] w fun e w' => e = .returned (.bool r) ∧ Below w.heap.size w w' := by
  have HR := Lib.hid hr
  have HN := Lib.hid hn
  have HB := Lib.hid h
  clear hr hn h
  go_enter Try.func18, Try.ntmps18
  go_wp2
  go_loopw [7] (fun i wr => ∃ k : Nat, k ≤ n ∧ i = .int .i64 k ∧ Hid (∀ b ∈ l.take k, b.ws.length ≤ 100) ∧ Below w.heap.size w wr) (fun i _ => n - (intOf i).toNat)
  case atStart => exact ⟨0, by omega, rfl, Lib.hid (by simp), Below.refl _ _⟩
  case round =>
    obtain ⟨k, hk, rfl, hall, hbe⟩ := hrel
    by_cases hlt : k < n
    · obtain ⟨g, o, b, rfl, hg, hb, hok, d0, d1⟩ := (HB.out.below hbe).at_ (k := k) (by rw [HN.out]; exact hlt)
      have hltI : (k : Int) < (n : Int) := by omega
      have h0I : (0 : Int) ≤ (k : Int) := by omega
      have BE := Lib.hid hbe
      have HBK := Lib.hid hb
      have hgr : g < wr.heap.size := Nat.lt_of_lt_of_le hg hbe.size
      clear hok hb hbe
      by_cases h1 : 100 < b.ws.length
      · have g1 : decide ((100 : Int) < (b.ws.length : Int)) = true := decide_eq_true (by omega)
        obtain rfl : r = false := by
          rw [← HR.out]
          refine decide_eq_false (fun q => ?_)
          have := q.1 b (List.mem_of_getElem? HBK.out)
          omega
        go_wp2
        go_ret
        exact ⟨rfl, bel_alloc BE.out _⟩
      · have g1 : decide ((100 : Int) < (b.ws.length : Int)) = false := decide_eq_false (by omega)
        go_wp2
        go_roundw
        case rel =>
          refine ⟨k + 1, by omega, by go_num, Lib.hid (fun b' hb' => ?_), bel_alloc BE.out _⟩
          rw [List.take_add_one, HBK.out] at hb'
          rcases List.mem_append.1 hb' with h2 | h2
          · exact hall.out b' h2
          · obtain rfl : b' = b := by simpa using h2
            omega
        case measure => simp [intOf]; omega
    · obtain rfl : k = n := by omega
      have hall' : ∀ b ∈ l, b.ws.length ≤ 100 := by
        have := hall.out
        rwa [List.take_of_length_le (by rw [HN.out]; omega)] at this
      have HQ := Lib.hid (show decide ((k : Int) ≤ 40) = r by
        rw [← HR.out]
        unfold light
        by_cases h4 : k ≤ 40
        · rw [decide_eq_true (show (k : Int) ≤ 40 by omega), decide_eq_true ⟨hall', by rw [HN.out]; exact h4⟩]
        · rw [decide_eq_false (show ¬ (k : Int) ≤ 40 by omega), decide_eq_false (fun q => h4 (by have := q.2; rw [HN.out] at this; exact this))])
      go_wp2
      go_ret
      exact ⟨by rw [← HQ.out]; rfl, hbe⟩
theorem RowAt.blks {w : World} {g : Nat} {s : Stv} (h : RowAt w g 33 s.C) (hs : s.Ok w w.heap.size) : Blks w w.heap.size (some ⟨g, 9, none⟩) s.bs :=
  ⟨fun _ => ⟨g, 9, rfl, h.lt, fun j b hj i v hi => by
    have hf := Stv.C_block hs.lh hj
    match i, hi with
    | 0, hi => exact (h.cells _).trans (by rw [Nat.add_zero, hf.1]; simpa using hi)
    | 1, hi => exact (h.cells _).trans (hf.2.trans (by simpa using hi))
    | i + 2, hi => simp at hi⟩, hs.ok⟩
end Go.Proofs.Ytajbghjjpebndaa
namespace Go.Proofs.Ytajbghjjpebndaa
set_option maxRecDepth 100000
open Go.RowKit
set_option linter.unusedVariables false
theorem Stg.read_a {v : List Nat} (h : ∀ x ∈ v, x < 65536) : (Stg.read v).a < 65536 := by
  have b4 := Bk.getD_u16 h 4
  unfold Stg.read
  split
  · decide
  split
  · decide
  split
  · exact b4
  · decide
/-- what Put hands back, by numbers -/
def PutV (w : World) (tx : Nat) (S : SS) (E : Int) (e : Ending) (w' : World) : Prop :=
  ∃ s' : Stv, e = .returned (.tuple #[.agg s'.C.toArray, .int .i64 E]) ∧ s'.Is w' w.heap.size tx S ∧ Below w.heap.size w w'
theorem words_len {o t : Nat} {k a : Int} {ws : List Nat} {l : List Nat} {E : Int} (h : Stg.words o t k a ws = (l, E)) : l.length ≤ 20 := by
  unfold Stg.words at h
  split at h
  · cases h; simp
  split at h
  · cases h; exact Nat.le_of_eq (Stg.tagged_length _ _ _ _ _)
  · cases h; simp
end Go.Proofs.Ytajbghjjpebndaa
namespace Go.Proofs.Ytajbghjjpebndaa
set_option maxRecDepth 100000
open Go.RowKit
set_option linter.unusedVariables false
set_option linter.unusedSimpArgs false
attribute [local go_sem] Later.cell Later.frozen setCell_twice
end Go.Proofs.Ytajbghjjpebndaa
namespace Go.Proofs.Ytajbghjjpebndaa
set_option maxRecDepth 100000
open Go.RowKit Go.ChangeShapes Go.WideShapes Go.ChangeAt Go.Joins Go.Deep
set_option linter.unusedVariables false
theorem list_chunks {α β : Type} (f : α → List β) (s : Nat) (Q : α → Prop) : ∀ (n : Nat) (L : List β), L.length = n * s → (∀ i, i < n → ∃ a, (L.drop (i * s)).take s = f a ∧ Q a) → ∃ zs : List α, zs.length = n ∧ L = zs.flatMap f ∧ ∀ a ∈ zs, Q a
  | 0, L, hl, _ => ⟨[], rfl, by simpa using hl, fun _ h => by cases h⟩
  | n + 1, L, hl, h => by
    obtain ⟨a, ha, hq⟩ := h 0 (by omega)
    have hl2 : (L.drop s).length = n * s := by rw [List.length_drop, hl, Nat.succ_mul]; omega
    obtain ⟨zs, h1, h2, h3⟩ := list_chunks f s Q n (L.drop s) hl2 (fun i hi => by
      obtain ⟨b, hb, hqb⟩ := h (i + 1) (by omega)
      refine ⟨b, ?_, hqb⟩
      rw [List.drop_drop, ← hb, Nat.succ_mul, Nat.add_comm])
    refine ⟨a :: zs, by simp [h1], ?_, fun b hb => by
      rcases List.mem_cons.1 hb with rfl | hb
      · exact hq
      · exact h3 b hb⟩
    rw [List.flatMap_cons, ← h2, ← ha, Nat.zero_mul, List.drop_zero, List.take_append_drop]
section
variable {H : Type} {enc : TypeId × Value → H} {w : World} {base b0 : Nat} {spare : Nat → Bool} {held : Bool} {r : Reach}
theorem flat_one (l : List Bool) : (l.flatMap fun b => [Value.bool b]) = l.map Value.bool := by
  induction l with
  | nil => rfl
  | cons a l ih => simp [List.flatMap_cons, ih]
theorem stage_trod (n : Nat) (cs : List Value) (y : DataW H × List MemPlace) (h : DataW.trod enc Try.prog w base spare held n 33 cs = some y) : ∃ s : Stv, cs = s.C ∧ s.Ok w w.heap.size := by
  obtain ⟨hl, n, hf⟩ := trod_field Try.underlying33 h
  have hC : Try.prog.cellsOf 33 = 25 := by kernel_rfl
  have hC0 : Try.prog.cellsOf 27 = 1 := by kernel_rfl
  have hC1 : Try.prog.cellsOf 28 = 8 := by kernel_rfl
  have hC2 : Try.prog.cellsOf 31 = 16 := by kernel_rfl
  have hCb : Try.prog.cellsOf 4 = 1 := by kernel_rfl
  have hCk : Try.prog.cellsOf 30 = 2 := by kernel_rfl
  rw [hC] at hl
  obtain ⟨y0, h0⟩ := hf 0 _ rfl
  obtain ⟨y1, h1⟩ := hf 1 _ rfl
  obtain ⟨y2, h2⟩ := hf 2 _ rfl
  replace h0 : DataW.trod enc Try.prog w base spare held n 27 ((cs.drop 0).take (Try.prog.cellsOf 27)) = some y0 := h0
  rw [hC0] at h0
  replace h1 : DataW.trod enc Try.prog w base spare held n 28 ((cs.drop 1).take (Try.prog.cellsOf 28)) = some y1 := h1
  rw [hC1] at h1
  replace h2 : DataW.trod enc Try.prog w base spare held n 31 ((cs.drop 9).take (Try.prog.cellsOf 31)) = some y2 := h2
  rw [hC2] at h2
  obtain ⟨t, e0, ht⟩ : ∃ t : Nat, (cs.drop 0).take 1 = [.int .u32 (t : Int)] ∧ t < 4294967296 := by
    obtain ⟨a, hv, _, hw⟩ := DataW.trod_int Try.underlying27 h0
    have ha := nat_of_wf (k := .u32) rfl hw
    exact ⟨a.toNat, by rw [hv, Int.toNat_of_nonneg ha.1], by have := ha.2; simp [top] at this; omega⟩
  obtain ⟨xs, m, _, _, hl1, hx1, he1⟩ := DataW.trod_array Try.underlying28 h1
  obtain ⟨hs, k1, e1, _⟩ := list_chunks (fun b : Bool => [Value.bool b]) 1 (fun _ => True) 8 _ (by rw [hl1, hC1]) (fun i hi => by
    have hy := he1 i hi
    rw [hCb, List.getElem?_eq_getElem (by omega)] at hy
    obtain ⟨b, hb, _⟩ := DataW.trod_bool Try.underlying4 hy
    exact ⟨b, hb, trivial⟩)
  obtain ⟨ys, m2, _, _, hl2, hx2, he2⟩ := DataW.trod_array Try.underlying31 h2
  obtain ⟨bs, k2, e2, hq⟩ := list_chunks Blk.cells 2 (fun b => b.Ok w w.heap.size) 8 _ (by rw [hl2, hC2]) (fun i hi => by
    have hy := he2 i hi
    rw [hCk, List.getElem?_eq_getElem (by omega)] at hy
    exact block_trod _ _ _ hy)
  refine ⟨⟨t, hs, bs⟩, ?_, k1, k2, ht, hq⟩
  have e3 : cs = (cs.drop 0).take 1 ++ ((cs.drop 1).take 8 ++ (cs.drop 9).take 16) := by
    have a1 : (cs.drop 9).take 16 = cs.drop 9 := List.take_of_length_le (by rw [List.length_drop]; omega)
    have a2 : (cs.drop 1).take 8 ++ cs.drop 9 = cs.drop 1 := by
      have := List.take_append_drop 8 (cs.drop 1)
      rwa [List.drop_drop] at this
    rw [a1, a2, List.drop_zero, List.take_append_drop]
  rw [e3, e0, e1, e2, flat_one]
  rfl
theorem open_stage {v : Value} {d : DataW H} {ps : List MemPlace} (hval : Value.okWide Try.prog w r b0 33 v) (hd : DataW.Trod enc Try.prog w base spare held 33 v d ps) :
    ∃ s : Stv, v = .agg s.C.toArray ∧ s.Ok w w.heap.size := by
  obtain ⟨cs, rfl, _⟩ := okWide_struct Try.underlying33 hval
  obtain ⟨fuel, hf⟩ := hd
  obtain ⟨s, hs, hok⟩ := stage_trod _ _ _ hf
  exact ⟨s, by rw [← hs]; rfl, hok⟩
end
end Go.Proofs.Ytajbghjjpebndaa
namespace Go.Proofs.Ytajbghjjpebndaa
set_option maxRecDepth 100000
open Go.RowKit
set_option linter.unusedVariables false
set_option linter.unusedSimpArgs false
attribute [local go_sem] Later.cell Later.frozen setCell_twice
end Go.Proofs.Ytajbghjjpebndaa
namespace Go.Proofs.Ytajbghjjpebndaa
set_option maxRecDepth 100000
open Go.RowKit
end Go.Proofs.Ytajbghjjpebndaa
namespace Go.Proofs.Ytajbghjjpebndaa.Ls
/-- a lease: who has it, and for how many ticks yet -/
structure L where
  o : Nat
  l : Int
def fit (x : L) : Prop := x.o < 65536 ∧ -9223372036854775808 ≤ x.l ∧ x.l ≤ 9223372036854775807
def right (x : L) : Bool := if x.o = 0 then decide (x.l = 0) else (decide (1 ≤ x.l) || decide (x.l = -1))
def counted (x : L) : L := if right x = true then x else ⟨0, 0⟩
def free (x : L) : Bool := decide ((counted x).o = 0)
def takeC (c : L) (ow : Nat) (t : Int) : L × Int :=
  if ow = 0 ∨ t < 1 then (c, 2) else if c.o ≠ 0 ∧ c.o ≠ ow then (c, 22) else if c.l = -1 then (c, 0) else (⟨ow, t⟩, 0)
def take (x : L) (ow : Nat) (t : Int) : L × Int := takeC (counted x) ow t
def holdC (c : L) (ow : Nat) : L × Int := if ow = 0 then (c, 2) else if c.o ≠ ow then (c, 22) else (⟨ow, -1⟩, 0)
def hold (x : L) (ow : Nat) : L × Int := holdC (counted x) ow
def leaveC (c : L) (ow : Nat) : L × Int := if ow = 0 then (c, 2) else if c.o ≠ ow then (c, 22) else (⟨0, 0⟩, 0)
def leave (x : L) (ow : Nat) : L × Int := leaveC (counted x) ow
def tickC (c : L) : L × Bool := if 0 < c.l then (if c.l = 1 then (⟨0, 0⟩, true) else (⟨c.o, c.l - 1⟩, false)) else (c, false)
def tick (x : L) : L × Bool := tickC (counted x)
def bootC (c : L) : L := if c.l = -1 then c else ⟨0, 0⟩
def boot (x : L) : L := bootC (counted x)

theorem right_counted (x : L) : right (counted x) = true := by
  unfold counted
  split
  · assumption
  · rfl
theorem counted_fit {x : L} (h : fit x) : fit (counted x) := by
  unfold counted
  split
  · exact h
  · exact ⟨by decide, by decide, by decide⟩
/-- what a right lease is -/
theorem right_cases {x : L} (h : right x = true) : (x.o = 0 ∧ x.l = 0) ∨ (x.o ≠ 0 ∧ 1 ≤ x.l) ∨ (x.o ≠ 0 ∧ x.l = -1) := by
  unfold right at h
  split at h
  · exact .inl ⟨by assumption, by simpa using h⟩
  · simp at h; omega
theorem right_of_free {x : L} (h : x.o = 0) (h' : x.l = 0) : right x = true := by simp [right, h, h']
theorem right_of_runs {x : L} (h : x.o ≠ 0) (h' : 1 ≤ x.l) : right x = true := by simp [right, h, h']
theorem right_of_held {x : L} (h : x.o ≠ 0) (h' : x.l = -1) : right x = true := by simp [right, h, h']
theorem right_not_free {x : L} (h : x.o = 0) (h' : x.l ≠ 0) : right x = false := by simp [right, h, h']
theorem right_not {x : L} (h : x.o ≠ 0) (h' : x.l < 1) (h'' : x.l ≠ -1) : right x = false := by simp [right, h, h'']; omega
theorem counted_of_right {x : L} (h : right x = true) : counted x = x := by simp [counted, h]
theorem counted_not {x : L} (h : right x = false) : counted x = ⟨0, 0⟩ := by simp [counted, h]
end Go.Proofs.Ytajbghjjpebndaa.Ls
namespace Go.Proofs.Ytajbghjjpebndaa
set_option maxRecDepth 100000
set_option linter.unusedVariables false
set_option linter.unusedSimpArgs false
instance (S : SS) (c : Int) (k : Nat) : Decidable (SSW S c k) := by unfold SSW; infer_instance
/-- an agent: its bank, lease, phase, transaction, the last one, its stage's transaction and blocks, its ticks -/
structure Ag where
  bank : List Nat
  l : Ls.L
  ph : Nat
  tx : Nat
  la : Nat
  stx : Nat
  S : SS
  tk : Int
/-- a command -/
structure Cmd where
  ow : Nat
  v : Nat
  tx : Nat
  n : Nat
  ck : Nat
def Ag.freed (g : Ag) : Ag := ⟨g.bank, ⟨0, 0⟩, 0, 0, g.la, 0, ss0, g.tk⟩
def firsts (S : SS) : Prop := ∀ i, i < (ssThere S).length → (S.getD i none).isSome = true
def Ag.right (g : Ag) : Prop := g.bank.length = 64 ∧ 1 ≤ g.tk ∧ g.tx = g.stx ∧ Bk.fit (ssThere g.S) = true ∧ Ls.right g.l = true ∧
  ((g.ph = 0 ∧ g.l.o = 0 ∧ g.tx = 0 ∧ ssThere g.S = []) ∨ (g.ph = 1 ∧ g.l.o ≠ 0 ∧ 0 < g.l.l ∧ g.la < g.tx) ∨ (g.ph = 2 ∧ g.l.o ≠ 0 ∧ g.l.l = -1 ∧ g.la < g.tx ∧ firsts g.S))
def Ag.claimed (g : Ag) (c : Cmd) : Ag := if g.ph ≠ 1 ∨ g.tx ≠ c.tx then ⟨g.bank, ⟨c.ow, g.tk⟩, 1, c.tx, g.la, c.tx, ss0, g.tk⟩ else ⟨g.bank, ⟨c.ow, g.tk⟩, 1, c.tx, g.la, c.tx, g.S, g.tk⟩
def Ag.doit (g : Ag) (c : Cmd) : Ag × Int :=
  if c.ow = 0 ∨ c.tx = 0 ∨ c.v < 1 ∨ 4 < c.v then (g, 2)
  else if g.l.o ≠ 0 ∧ g.l.o ≠ c.ow then (g, 22)
  else if c.v = 1 then
    if c.tx ≤ g.la ∨ (g.ph ≠ 0 ∧ c.tx < g.tx) then (g, 23) else if g.ph = 2 ∧ g.tx = c.tx then (g, 0) else (g.claimed c, 0)
  else if c.v = 2 then
    if g.ph = 2 ∧ g.tx = c.tx then (g, 0) else if g.ph ≠ 1 ∨ g.tx ≠ c.tx ∨ ¬ SSW g.S c.n c.ck then (g, 23)
    else (⟨g.bank, ⟨g.l.o, -1⟩, 2, g.tx, g.la, g.stx, g.S, g.tk⟩, 0)
  else if c.v = 3 then
    if g.la = c.tx then (g, 0) else if g.ph ≠ 2 ∨ g.tx ≠ c.tx then (g, 23)
    else (⟨Bk.over g.bank (ssThere g.S), ⟨0, 0⟩, 0, 0, c.tx, 0, ss0, g.tk⟩, 0)
  else if c.tx ≤ g.la then (g, 23) else if g.ph ≠ 0 ∧ g.tx = c.tx then (g.freed, 0) else (g, 0)
/-- what Put of a stage hands back: its state, its error -/
def putP (tx : Nat) (S : SS) (n : Int) (p : Bk.Pr) : Nat × SS × Int :=
  if n < 0 ∨ 7 < n then (0, ss0, 2) else if Bk.fits p.1 p.2.length = true then (tx, S.set n.toNat (some p), 0) else (0, ss0, 20)
def Ag.put (g : Ag) (ow tx : Nat) (n : Int) (p : Bk.Pr) : Ag × Int :=
  if ow = 0 ∨ tx = 0 then (g, 2)
  else if g.l.o ≠ 0 ∧ g.l.o ≠ ow then (g, 22)
  else if g.ph ≠ 1 ∨ g.tx ≠ tx then (g, 23)
  else if n < 0 ∨ 7 < n then (g, 2)
  else if Bk.fits p.1 p.2.length = true then (⟨g.bank, ⟨g.l.o, g.tk⟩, g.ph, g.tx, g.la, g.stx, g.S.set n.toNat (some p), g.tk⟩, 0)
  else (g, 20)
def Ag.tick (g : Ag) : Ag := if g.ph ≠ 1 then g else if g.l.l - 1 = 0 then g.freed else ⟨g.bank, ⟨g.l.o, g.l.l - 1⟩, g.ph, g.tx, g.la, g.stx, g.S, g.tk⟩
def Ag.ticks (g : Ag) : Nat → Ag
  | 0 => g
  | n + 1 => (g.ticks n).tick
def Ag.boot (g : Ag) : Ag := if g.ph = 1 then g.freed else g
def Ag.new (bank : List Nat) (tk : Int) : Ag := ⟨bank, ⟨0, 0⟩, 0, 0, 0, 0, ss0, tk⟩
/-- something that is done -/
structure AOp where
  what : Nat
  c : Cmd
  good : Bool
  n : Int
  p : Bk.Pr
def AOp.cmd (o : AOp) (g : Ag) : Cmd := if o.good = true then ⟨o.c.ow, o.c.v, o.c.tx, (ssThere g.S).length, chk (ssThere g.S)⟩ else o.c
def AOp.does (o : AOp) (g : Ag) : Ag × Int :=
  if o.what % 4 = 0 then g.doit (o.cmd g) else if o.what % 4 = 1 then g.put o.c.ow o.c.tx o.n o.p else if o.what % 4 = 2 then (g.ticks (o.c.n % 21), 0) else (g.boot, 0)
/-! ### Laws -/
theorem ss0_there : ssThere ss0 = [] := rfl
theorem ss0_length : ss0.length = 8 := rfl
theorem fit_nil : Bk.fit [] = true := rfl
theorem firsts0 : firsts ss0 := fun i hi => by rw [ss0_there] at hi; cases hi
theorem there_nil {S : SS} (hS : S.length = 8) (h : ssThere S = []) : S = ss0 := by
  refine ss_eq hS rfl fun k hk => ?_
  have h1 : ∀ x ∈ S, x = none := fun x hx => by
    cases x with
    | none => rfl
    | some p =>
      have : p ∈ ssThere S := List.mem_filterMap.2 ⟨some p, hx, rfl⟩
      rw [h] at this
      cases this
  have h2 : S[k]? = some none := by rw [List.getElem?_eq_getElem (by omega), h1 _ (List.getElem_mem (by omega))]
  rw [h2]
  unfold ss0
  rw [List.getElem?_replicate_of_lt hk]
theorem firstN_of {S : SS} {n : Int} (hS : S.length = 8) (h0 : 0 ≤ n) (h8 : n ≤ 8) (h : ∀ i, i < 8 → (S.getD i none).isSome = decide ((i : Int) < n)) : S = firstN ((List.range n.toNat).map fun i => (S.getD i none).getD (0, [])) n.toNat := by
  refine ss_eq hS (firstN_length _ _) fun k hk => ?_
  rw [firstN_get? hk]
  have h1 := h k hk
  rw [List.getD_eq_getElem?_getD, List.getElem?_eq_getElem (by omega), Option.getD_some] at h1
  rw [List.getElem?_eq_getElem (by omega)]
  by_cases hkn : (k : Int) < n
  · rw [decide_eq_true hkn] at h1
    rw [if_pos (by omega), List.getD_eq_getElem?_getD, List.getElem?_map, List.getElem?_range (by omega)]
    simp only [Option.map_some, Option.getD_some]
    rw [List.getD_eq_getElem?_getD, List.getElem?_eq_getElem (by omega), Option.getD_some]
    cases hx : S[k] with
    | none => rw [hx] at h1; cases h1
    | some p => rfl
  · rw [decide_eq_false hkn] at h1
    rw [if_neg (by omega)]
    cases hx : S[k] with
    | none => rfl
    | some p => rw [hx] at h1; cases h1
theorem there_len_of {S : SS} {n : Int} (hS : S.length = 8) (h0 : 0 ≤ n) (h8 : n ≤ 8) (h : ∀ i, i < 8 → (S.getD i none).isSome = decide ((i : Int) < n)) : (ssThere S).length = n.toNat := by
  rw [firstN_of hS h0 h8 h, there_first (by simp) (by omega)]
  simp
theorem ssw_firsts {S : SS} {n : Int} {k : Nat} (hS : S.length = 8) (h : SSW S n k) : firsts S := fun i hi => by
  obtain ⟨h0, h8, h1, _⟩ := h
  rw [there_len_of hS h0 h8 h1] at hi
  rw [h1 i (by omega)]
  exact decide_eq_true (by omega)
theorem ssw_len {S : SS} {n : Int} {k : Nat} (hS : S.length = 8) (h : SSW S n k) : n = ((ssThere S).length : Int) := by
  obtain ⟨h0, h8, h1, _⟩ := h
  rw [there_len_of hS h0 h8 h1]
  omega
theorem putP_fit {S : SS} {n : Nat} {p : Bk.Pr} (h : Bk.fit (ssThere S) = true) (hp : Bk.fits p.1 p.2.length = true) : Bk.fit (ssThere (S.set n (some p))) = true := by
  rw [Bk.fit_iff] at h ⊢
  intro q hq
  obtain ⟨x, hx, hxq⟩ := List.mem_filterMap.1 hq
  obtain rfl : x = some q := hxq
  rcases List.mem_or_eq_of_mem_set hx with hx | hx
  · exact h q (List.mem_filterMap.2 ⟨_, hx, rfl⟩)
  · obtain rfl : q = p := Option.some.inj hx
    exact hp
section
variable {g : Ag}
theorem Ag.right.freed (h : g.right) : g.freed.right := ⟨h.1, h.2.1, rfl, rfl, rfl, .inl ⟨rfl, rfl, rfl, rfl⟩⟩
theorem Ag.right.new {b : List Nat} {tk : Int} (hb : b.length = 64) (ht : 1 ≤ tk) : (Ag.new b tk).right := ⟨hb, ht, rfl, rfl, rfl, .inl ⟨rfl, rfl, rfl, rfl⟩⟩
theorem Ag.right.phases (h : g.right) : (g.ph = 0 ∧ g.l.o = 0 ∧ g.l.l = 0 ∧ g.tx = 0 ∧ ssThere g.S = []) ∨ (g.ph = 1 ∧ g.l.o ≠ 0 ∧ 0 < g.l.l ∧ g.la < g.tx) ∨ (g.ph = 2 ∧ g.l.o ≠ 0 ∧ g.l.l = -1 ∧ g.la < g.tx ∧ firsts g.S) := by
  obtain ⟨h1, h2, h3, h4, h5, h6 | h6 | h6⟩ := h
  · refine .inl ⟨h6.1, h6.2.1, ?_, h6.2.2.1, h6.2.2.2⟩
    have := Ls.right_cases h5
    omega
  · exact .inr (.inl h6)
  · exact .inr (.inr h6)
theorem Ag.right.tick (h : g.right) : g.tick.right := by
  unfold Ag.tick
  split
  · exact h
  split
  · exact h.freed
  · rename_i h1 h2
    have h1' : g.ph = 1 := by omega
    obtain ⟨a1, a2, a3, a4, a5, a6⟩ := h
    have a7 : g.l.o ≠ 0 ∧ 0 < g.l.l ∧ g.la < g.tx := by
      rcases a6 with a | a | a
      · omega
      · exact a.2
      · omega
    exact ⟨a1, a2, a3, a4, Ls.right_of_runs a7.1 (by simp only; omega), .inr (.inl ⟨h1', a7.1, by simp only; omega, a7.2.2⟩)⟩
theorem Ag.right.ticks (h : g.right) : ∀ n, (g.ticks n).right
  | 0 => h
  | n + 1 => (Ag.right.ticks h n).tick
theorem Ag.right.boot (h : g.right) : g.boot.right := by
  unfold Ag.boot
  split
  · exact h.freed
  · exact h
theorem Ag.right.put (h : g.right) (ow tx : Nat) (n : Int) (p : Bk.Pr) : (g.put ow tx n p).1.right := by
  unfold Ag.put
  split
  · exact h
  split
  · exact h
  split
  · exact h
  split
  · exact h
  split
  · rename_i h1 h2 h3 h4 h5
    have h1' : g.ph = 1 := by omega
    obtain ⟨a1, a2, a3, a4, a5, a6⟩ := h
    have a7 : g.l.o ≠ 0 ∧ 0 < g.l.l ∧ g.la < g.tx := by
      rcases a6 with a | a | a
      · omega
      · exact a.2
      · omega
    exact ⟨a1, a2, a3, putP_fit a4 h5, Ls.right_of_runs a7.1 a2, .inr (.inl ⟨h1', a7.1, by simp only; omega, a7.2.2⟩)⟩
  · exact h
theorem Ag.right.claimed (h : g.right) (c : Cmd) (hc : c.ow ≠ 0) (ht : g.la < c.tx) : (g.claimed c).right := by
  obtain ⟨a1, a2, a3, a4, a5, a6⟩ := h
  unfold Ag.claimed
  split
  · exact ⟨a1, a2, rfl, rfl, Ls.right_of_runs hc a2, .inr (.inl ⟨rfl, hc, by simp only; omega, ht⟩)⟩
  · exact ⟨a1, a2, rfl, a4, Ls.right_of_runs hc a2, .inr (.inl ⟨rfl, hc, by simp only; omega, ht⟩)⟩
theorem Ag.right.doit (h : g.right) (hS : g.S.length = 8) (c : Cmd) : (g.doit c).1.right := by
  unfold Ag.doit
  split
  · exact h
  split
  · exact h
  rename_i h1 h2
  split
  · split
    · exact h
    split
    · exact h
    · exact h.claimed c (by omega) (by omega)
  split
  · split
    · exact h
    split
    · exact h
    · rename_i h3 h4
      have h5 : g.ph = 1 ∧ g.tx = c.tx ∧ SSW g.S c.n c.ck := ⟨by omega, by omega, by
        by_cases hq : SSW g.S c.n c.ck
        · exact hq
        · exact absurd (.inr (.inr hq)) h4⟩
      obtain ⟨a1, a2, a3, a4, a5, a6⟩ := h
      have a7 : g.l.o ≠ 0 ∧ 0 < g.l.l ∧ g.la < g.tx := by
        rcases a6 with a | a | a
        · omega
        · exact a.2
        · omega
      exact ⟨a1, a2, a3, a4, Ls.right_of_held a7.1 rfl, .inr (.inr ⟨rfl, a7.1, rfl, a7.2.2, ssw_firsts hS h5.2.2⟩)⟩
  split
  · split
    · exact h
    split
    · exact h
    · exact ⟨(Bk.over_length _ _).trans h.1, h.2.1, rfl, rfl, rfl, .inl ⟨rfl, rfl, rfl, rfl⟩⟩
  split
  · exact h
  split
  · exact h.freed
  · exact h
theorem Ag.freed_S (g : Ag) : g.freed.S.length = 8 := rfl
theorem Ag.tick_S (h : g.S.length = 8) : g.tick.S.length = 8 := by
  unfold Ag.tick
  split
  · exact h
  split
  · rfl
  · exact h
theorem Ag.ticks_S (h : g.S.length = 8) : ∀ n, (g.ticks n).S.length = 8
  | 0 => h
  | n + 1 => Ag.tick_S (Ag.ticks_S h n)
theorem Ag.boot_S (h : g.S.length = 8) : g.boot.S.length = 8 := by
  unfold Ag.boot
  split
  · rfl
  · exact h
theorem Ag.put_S (h : g.S.length = 8) (ow tx : Nat) (n : Int) (p : Bk.Pr) : (g.put ow tx n p).1.S.length = 8 := by
  unfold Ag.put
  repeat' split
  all_goals first | exact h | (simp only [List.length_set]; exact h)
theorem Ag.doit_S (h : g.S.length = 8) (c : Cmd) : (g.doit c).1.S.length = 8 := by
  unfold Ag.doit Ag.claimed
  repeat' split
  all_goals first | exact h | rfl
theorem AOp.does_right (o : AOp) (h : g.right) (hS : g.S.length = 8) : (o.does g).1.right := by
  unfold AOp.does
  split
  · exact h.doit hS _
  split
  · exact h.put _ _ _ _
  split
  · exact h.ticks _
  · exact h.boot
end
end Go.Proofs.Ytajbghjjpebndaa
