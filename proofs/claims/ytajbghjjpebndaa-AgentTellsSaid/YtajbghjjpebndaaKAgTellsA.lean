/- AgentTells: what the walk carries. -/
import Derived.Test.YtajbghjjpebndaaQ29
import Derived.Test.YtajbghjjpebndaaQ30
import Derived.Test.YtajbghjjpebndaaKRf20d
import Derived.Test.YtajbghjjpebndaaKRf20e
import Derived.Test.YtajbghjjpebndaaKRf20f
import Derived.Test.YtajbghjjpebndaaKRf20h
import Derived.Test.YtajbghjjpebndaaKOpenAg
namespace Go.Proofs.Ytajbghjjpebndaa
set_option maxRecDepth 100000
open Go.RowKit
set_option linter.unusedVariables false
set_option linter.unusedSimpArgs false
theorem cmd_neq (q : Cmd) (w : World) : (binOp .neq 41 (.agg (cmdL q).toArray) (.agg (cmdL q).toArray)).run Try.prog w = .ok (.bool false) w := by
  obtain ⟨ow, v, tx, n, ck⟩ := q
  show (binOp .neq 41 (.agg #[.int .u16 (ow : Int), .int .u8 (v : Int), .int .u32 (tx : Int), .int .u16 (n : Int), .int .u32 (ck : Int)]) (.agg #[.int .u16 (ow : Int), .int .u8 (v : Int), .int .u32 (tx : Int), .int .u16 (n : Int), .int .u32 (ck : Int)])).run Try.prog w = .ok (.bool false) w
  go_simp
theorem rd_fit {l : List Nat} (hu : ∀ x ∈ l, x < 65536) : (rd l).1.Fit := by
  unfold rd
  split
  · rename_i h
    obtain ⟨a0, a1, a2, a3, a4, a5, a6, a7, rfl⟩ := eight l h.1
    have h0 := hu a0 (by simp)
    have h2 := hu a2 (by simp)
    have h3 := hu a3 (by simp)
    have h4 := hu a4 (by simp)
    have h5 := hu a5 (by simp)
    have h6 := hu a6 (by simp)
    have h1' : a1 < 256 := h.2.2
    exact ⟨h0, h1', (by show 65536 * a2 + a3 < 4294967296; omega), h4, (by show 65536 * a5 + a6 < 4294967296; omega)⟩
  · exact ⟨(by decide : (0 : Nat) < 65536), (by decide : (0 : Nat) < 256), (by decide : (0 : Nat) < 4294967296), (by decide : (0 : Nat) < 65536), (by decide : (0 : Nat) < 4294967296)⟩
theorem RowAt.ablks {w : World} {g : Nat} {A : Option Addr} {c : Nat} {s : Stv} {a : Ag} (h : RowAt w g 35 (agC A c s a)) (hs : s.Ok w w.heap.size) : Blks w w.heap.size (some ⟨g, 15, none⟩) s.bs :=
  ⟨fun _ => ⟨g, 15, rfl, h.lt, fun j b hj i v hi => by
    have hf := agC_blk (A := A) (c := c) (s := s) (g := a) hs.lh hj
    match i, hi with
    | 0, hi => exact (h.cells _).trans (by rw [Nat.add_zero, hf.1]; simpa using hi)
    | 1, hi => exact (h.cells _).trans (hf.2.trans (by simpa using hi))
    | i + 2, hi => simp at hi⟩, hs.ok⟩
theorem light_all {l : List Blk} (h : light l = true) : ∀ b ∈ l, b.ws.length ≤ 100 := (of_decide_eq_true h).1
/-- the rows and agents of a round, but for the reference's own -/
structure TS (w : World) (gA gW gN gO : Nat) (g gn : Ag) (Aa : Option Addr) (ca : Nat) (sa : Stv) (Aw : Option Addr) (cw : Nat) (sw : Stv) (An : Option Addr) (cn : Nat) (sn : Stv) (v : OV) (wx : World) : Prop where
  ra : RowAt wx gA 35 (agC Aa ca sa g)
  rw_ : RowAt wx gW 35 (agC Aw cw sw g)
  rn : RowAt wx gN 35 (agC An cn sn gn)
  ro : RowAt wx gO 43 (opL v)
  ia : AgIs Aa ca sa g wx 0
  iw : AgIs Aw cw sw g wx 0
  inn : AgIs An cn sn gn wx 0
  bk : Below w.heap.size w wx
section
variable {w wx wy : World} {gA gB gW gN gO : Nat} {g gn : Ag} {Aa : Option Addr} {ca : Nat} {sa : Stv} {Aw : Option Addr} {cw : Nat} {sw : Stv} {An : Option Addr} {cn : Nat} {sn : Stv} {v : OV}
theorem TS.to (h : TS w gA gW gN gO g gn Aa ca sa Aw cw sw An cn sn v wx) (k : Below wx.heap.size wx wy) : TS w gA gW gN gO g gn Aa ca sa Aw cw sw An cn sn v wy :=
  ⟨h.ra.to k, h.rw_.to k, h.rn.to k, h.ro.to k, h.ia.to k, h.iw.to k, h.inn.to k, h.bk.trans (k.mono h.bk.size)⟩
/-- what keeps off the reference's variable -/
structure TOff (w : World) (gA gB gW gN gO : Nat) (g gn : Ag) (Aa : Option Addr) (sa : Stv) (Aw : Option Addr) (sw : Stv) (An : Option Addr) (sn : Stv) : Prop where
  a : gA ≠ gB
  w_ : gW ≠ gB
  n : gN ≠ gB
  o : gO ≠ gB
  oa : AgOff gB Aa sa g
  ow : AgOff gB Aw sw g
  on : AgOff gB An sn gn
  b : w.heap.size ≤ gB
theorem TS.only (h : TS w gA gW gN gO g gn Aa ca sa Aw cw sw An cn sn v wx) (k : Only gB wx wy) (f : TOff w gA gB gW gN gO g gn Aa sa Aw sw An sn) : TS w gA gW gN gO g gn Aa ca sa Aw cw sw An cn sn v wy :=
  ⟨h.ra.only k f.a, h.rw_.only k f.w_, h.rn.only k f.n, h.ro.only k f.o, h.ia.onlyO k f.oa, h.iw.onlyO k f.ow, h.inn.onlyO k f.on, k.to h.bk f.b⟩
end
/-- the reference's agent in its variable -/
structure TB (gA gB : Nat) (A : Option Addr) (c : Nat) (s : Stv) (g : Ag) (wx : World) : Prop where
  rb : RowAt wx gB 35 (agC A c s g)
  ib : AgIs A c s g wx 0
  oa : AgOff gA A s g
  ob : AgOff gB A s g
section
variable {gA gB : Nat} {A : Option Addr} {c base : Nat} {s : Stv} {g : Ag} {wx wy : World}
theorem TB.to (h : TB gA gB A c s g wx) (k : Below wx.heap.size wx wy) : TB gA gB A c s g wy := ⟨h.rb.to k, h.ib.to k, h.oa, h.ob⟩
theorem TB.of (r : RowAt wy gB 35 (agC A c s g)) (k : Only gB wx wy) (h : AgIs A c s g wx base) (hA : gA < base) (hB : gB < base) : TB gA gB A c s g wy :=
  ⟨r, (h.only k hB).more (Nat.zero_le _), h.off (.inl hA), h.off (.inl hB)⟩
end
/-- both agents of the law, in their variables -/
structure TT (w : World) (gA gB : Nat) (g : Ag) (Aa : Option Addr) (ca : Nat) (sa : Stv) (Ab : Option Addr) (cb : Nat) (sb : Stv) (wx : World) : Prop where
  r : g.right
  ra : RowAt wx gA 35 (agC Aa ca sa g)
  ia : AgIs Aa ca sa g wx 0
  oa : AgOff gA Aa sa g
  ob : AgOff gB Aa sa g
  b : TB gA gB Ab cb sb g wx
  bk : Below w.heap.size w wx
theorem TT.to {w wx wy : World} {gA gB : Nat} {g : Ag} {Aa : Option Addr} {ca : Nat} {sa : Stv} {Ab : Option Addr} {cb : Nat} {sb : Stv} (h : TT w gA gB g Aa ca sa Ab cb sb wx) (k : Below wx.heap.size wx wy) : TT w gA gB g Aa ca sa Ab cb sb wy :=
  ⟨h.r, h.ra.to k, h.ia.to k, h.oa, h.ob, h.b.to k, h.bk.trans (k.mono h.bk.size)⟩
theorem newR_zero {bank : List Nat} {tk : Int} (h : (newR bank tk).2 = 0) : (newR bank tk).1.right := by
  unfold newR at h ⊢
  split
  · rename_i h1
    rw [if_pos h1] at h
    cases h
  split
  · rename_i h1 h2
    rw [if_neg h1, if_pos h2] at h
    cases h
  · rename_i h1 h2
    exact Ag.right.new (by omega) (by omega)
end Go.Proofs.Ytajbghjjpebndaa
