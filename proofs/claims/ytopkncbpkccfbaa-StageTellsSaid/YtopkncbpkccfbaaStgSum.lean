/- The walk of stage.Sum. -/
import Derived.Test.YtopkncbpkccfbaaSumWd
import Derived.Test.YtopkncbpkccfbaaCrcI
import Derived.Test.YtopkncbpkccfbaaStgW
import Derived.Test.YtopkncbpkccfbaaStv
namespace Go.Proofs.Ytopkncbpkccfbaa
open Go.RowKit
set_option linter.unusedVariables false
attribute [local go_sem] Later.cell Later.frozen setCell_twice
def lsum (ps : List Bk.Pr) : List Nat := ps.flatMap fun p => Stg.itself p.1 p.2
def chk (ps : List Bk.Pr) : Nat := Crc.bytes (packRegs (lsum ps))
theorem lsum_length (ps : List Bk.Pr) : (lsum ps).length = 16 * ps.length := by
  induction ps with
  | nil => rfl
  | cons p ps ih => simp only [lsum, List.flatMap_cons, List.length_append, Stg.itself_length, List.length_cons] at ih ⊢; omega
theorem lsum_u16 {ps : List Bk.Pr} (h : ∀ p ∈ ps, ∀ x ∈ p.2, x < 65536) : ∀ x ∈ lsum ps, x < 65536 := fun x hx => by
  obtain ⟨p, hp, hx⟩ := List.mem_flatMap.1 hx
  exact Stg.itself_u16 (h p hp) x hx
theorem lsum_take {ps : List Bk.Pr} {k : Nat} {p : Bk.Pr} (h : ps[k]? = some p) : lsum (ps.take (k + 1)) = lsum (ps.take k) ++ Stg.itself p.1 p.2 := by
  unfold lsum
  rw [List.take_add_one, h, List.flatMap_append]
  simp
theorem chk_lt {ps : List Bk.Pr} (h : ∀ p ∈ ps, ∀ x ∈ p.2, x < 65536) : chk ps < 4294967296 := Crc.bytes_lt (packRegs_byte (lsum_u16 h))
set_option maxHeartbeats 400000 in
theorem stSum_any (A : Option Addr) (l : List Blk) (c n : Nat) (ps : List Bk.Pr) (w : World) (h : Blks w w.heap.size A l) (hn : l.length = n) (hn2 : n ≤ 1000) (hc : n ≤ c) (hc2 : c ≤ 9223372036854775807) (hp : prs l = ps) :
    Calls Try.prog 21 #[.slice A n c] w fun e w' => e = .returned (.int .u32 (chk ps : Nat)) ∧ Below w.heap.size w w' := by
  subst hn hp
  have hu := lsum_u16 (prs_u16 h.ok)
  have HU := Lib.hid hu
  have HL := Lib.hid (lsum_length (prs l))
  have HT := Lib.hid (show (prs l).take l.length = prs l by rw [List.take_of_length_le (by simp)])
  clear hu
  go_enter Try.func21, Try.ntmps21
  go_wp2
  go_loopw [3, 8] (fun v i wr => ∃ k m : Nat, ∃ A' c', k ≤ l.length ∧ i = .int .i64 k ∧ v = .slice A' m c' ∧ (lsum ((prs l).take k)).length = m ∧ wr.ownsRow w.heap.size 22 1 (.slice A' m c') m ((lsum ((prs l).take k)).map u16w) ∧ Below w.heap.size w wr) (fun _ i _ => l.length - (intOf i).toNat)
  case atStart => exact ⟨0, 0, none, 0, by omega, rfl, rfl, rfl, World.ownsRow_nil _ _ _ _, Below.refl _ _⟩
  case round =>
    obtain ⟨k, m, A', c', hk, rfl, rfl, hm, hown, hbe⟩ := hrel
    by_cases hlt : k < l.length
    · obtain ⟨g, o, b, rfl, hg, hb, hbo, hc0, hc1⟩ := (h.to hbe).at_ hlt
      have hltI : (k : Int) < (l.length : Int) := by omega
      have hkc : (k : Int) < (c : Int) := by omega
      have HLT := Lib.hid (lsum_take (prs_get hb))
      have hm16 : m ≤ 16000 := by rw [← hm, lsum_length]; simp; omega
      have HM := Lib.hid hm
      have ki := Lib.hid (fun W (hW : Below wr.heap.size wr W) => itself_any b.a b.ws b.A b.c b.ws.length W rfl (hbo.to hW).sq hbo.lo hbo.hi (Nat.le_trans hbo.ln hbo.cap) hbo.nl)
      have HIL := Lib.hid (Stg.itself_length b.a b.ws)
      clear hb hm hbo
      go_wp2_with fail
      (with_reducible refine (ki.out _ (bel_alloc (Below.refl _ _) _)).mono ?_)
      rintro e_ w1 ⟨A1, c1, rfl, o1, hb1⟩
      rw [HIL.out] at o1 ⊢
      have hb1r : Below wr.heap.size wr w1 := (bel_alloc (Below.refl _ _) _).trans (hb1.mono (by simp))
      have hown1 := own_below hown hb1r
      have hbe1 : Below w.heap.size w w1 := hbe.trans (hb1r.mono hbe.size)
      have kad := Lib.hid (stadd_any w.heap.size A' A1 c' c1 m 16 (lsum ((prs l).take k)) (Stg.itself b.a b.ws) w1 hown1 HM.out (Sq.of_own o1) HIL.out (own_nil_c o1).1 (by rw [HM.out, HIL.out]; omega) hbe1.size)
      clear hown o1 hown1 hb1 hb1r ki
      go_wp2_with fail
      (with_reducible refine (kad.out).mono ?_)
      rintro e_ w2 ⟨A2, c2, rfl, o2, hb2⟩
      have hbe2 : Below w.heap.size w w2 := hbe1.trans hb2
      have HLEN := Lib.hid (show (lsum ((prs l).take k) ++ Stg.itself b.a b.ws).length = m + 16 by rw [List.length_append, HM.out, HIL.out])
      rw [HLEN.out] at o2 ⊢
      have O2 := Lib.hid o2
      clear o2 hb2 kad
      go_wp2
      go_roundw
      case rel => exact ⟨k + 1, m + 16, A2, c2, by omega, by go_num, rfl, by rw [HLT.out]; exact HLEN.out, by rw [HLT.out]; exact O2.out, hbe2⟩
      case measure => simp [intOf]; omega
    · obtain rfl : k = l.length := by omega
      have HM := Lib.hid hm
      rw [HT.out] at HM hown
      have hs := Sq.of_own hown
      obtain rfl : m = (lsum (prs l)).length := HM.out.symm
      have ksw := Lib.hid (sumWords_any A' c' (lsum (prs l)) wr hs HU.out (by rw [HL.out]; simp; omega))
      clear hm hown hs
      go_wp2_with fail
      (with_reducible refine (ksw.out).mono ?_)
      rintro e_ w2 ⟨rfl, hb2⟩
      have hbe2 : Below w.heap.size w w2 := hbe.trans (hb2.mono hbe.size)
      go_wp2
      go_ret
      exact ⟨rfl, hbe2⟩
end Go.Proofs.Ytopkncbpkccfbaa
