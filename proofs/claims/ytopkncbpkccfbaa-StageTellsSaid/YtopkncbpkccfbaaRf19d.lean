/- The walks of the references of layers 8 and 19: Blocks, Sum. -/
import Derived.Test.YtopkncbpkccfbaaRf19c
import Derived.Test.YtopkncbpkccfbaaStgWh
import Derived.Test.YtopkncbpkccfbaaRf08
namespace Go.Proofs.Ytopkncbpkccfbaa
open Go.RowKit
set_option linter.unusedVariables false
set_option linter.unusedSimpArgs false
attribute [local go_sem] Later.cell Later.frozen setCell_twice
set_option maxRecDepth 100000 in
set_option maxHeartbeats 1000000 in
theorem rblocks_S {s : Stv} {B tx : Nat} {S : SS} (w : World) (hs : s.Is w B tx S) : Calls Try.prog 32 #[.agg s.C.toArray] w (BlocksP w (ssThere S)) := by
  obtain ⟨i0, hif, hz0, hz1, hz2⟩ := info_parts info_block
  have kc := Lib.hid (rcopy_S (w.alloc (.cells s.C.toArray 42)) (hs.to (bel_alloc (Below.refl _ _) _)))
  have R1 := Lib.hid (RowAt.new w 42 s.C)
  have HC := Lib.hid hs.C25
  have HSL := Lib.hid hs.len
  clear hs
  go_enter Try.func32, Try.ntmps32
  go_wp2_with (refine wpList_load_var rfl 42 (.tmp 1) rfl w.heap.size rfl s.C _ 25 R1.out Try.underlying42 rfl size_25 HC.out ?_)
  with_reducible refine (kc.out).mono ?_
  rintro e_ w2 ⟨so, rfl, hso, hb2⟩
  have BW := Lib.hid ((bel_alloc (Below.refl _ _) _).trans (hb2.mono (by simp)) : Below w.heap.size w w2)
  have HCo := Lib.hid hso.C25
  have ISO := Lib.hid hso
  clear hb2 hso kc R1 HC
  go_wp2_with (refine wpList_store_var rfl 42 (.tmp 4) (.tmp 7) rfl w2.heap.size Stv.zero.C so.C 25 rfl rfl (heap_alloc_new w2 _) size_25 rfl HCo.out (Stv.C_one so) ?_; intro w4 r4 k4; have R4 := Lib.hid r4; have K4 := Lib.hid k4; clear r4 k4)
  have hb4 : Below w2.heap.size w2 w4 := K4.out.to (bel_alloc (Below.refl _ _) _) (Nat.le_refl _)
  have hz24 := hb4.size
  have hz4 : w2.heap.size < w4.heap.size := by rw [K4.out.size]; simp
  replace ISO := Lib.hid (ISO.out.to hb4)
  replace BW := Lib.hid (BW.out.trans (hb4.mono (BW.out.size)))
  have hwz := BW.out.size
  clear hb4 K4
  go_loopw [3, 5] (fun v i wr => ∃ k n : Nat, ∃ A c bl, k ≤ 8 ∧ i = .int .i64 k ∧ v = .slice A n c ∧ n = (bl : List Blk).length ∧ n ≤ k ∧ prs bl = there so.hs (prs so.bs) k ∧ (∀ b ∈ bl, b.Ok w4 w4.heap.size) ∧ wr.ownsRow w4.heap.size 26 2 (.slice A n c) n (bl.flatMap Blk.cells) ∧ Below w4.heap.size w4 wr) (fun _ i _ => 8 - (intOf i).toNat)
  case atStart => exact ⟨0, 0, none, 0, [], by omega, rfl, rfl, rfl, by omega, rfl, by simp, World.ownsRow_nil _ _ _ _, Below.refl _ _⟩
  case round =>
    obtain ⟨k, n, A, c, bl, hk, rfl, rfl, hn, hnk, hprs, hok, hown, hbe⟩ := hrel
    have hzr := hbe.size
    by_cases hlt : k < 8
    · obtain ⟨b, hb⟩ : ∃ b, so.bs[k]? = some b := ⟨_, List.getElem?_eq_getElem (by rw [ISO.out.ok.lb]; exact hlt)⟩
      obtain ⟨x, hx⟩ : ∃ x, so.hs.getD k false = x := ⟨_, rfl⟩
      have hltI : (k : Int) < 8 := by omega
      have h0I : (0 : Int) ≤ (k : Int) := by omega
      have hr4 := R4.out.to hbe
      have d1 := (hr4.cells (1 + k)).trans (by rw [Stv.C_have (getD_hs (by rw [ISO.out.ok.lh]; exact hlt)), hx])
      have hcb := Stv.C_block ISO.out.ok.lh hb
      have d2 := (hr4.cells (9 + k * 2)).trans hcb.1
      have d3 := (hr4.cells (9 + k * 2 + 1)).trans hcb.2
      have hT := there_succ so.hs (prs so.bs) k
      have hp' : (prs so.bs).getD k (0, []) = b.pr := by rw [List.getD_eq_getElem?_getD, prs_get hb]; rfl
      rw [hx, hp'] at hT
      have HT := Lib.hid hT
      have HB := Lib.hid (ISO.out.ok.ok b (List.mem_of_getElem? hb))
      have HP := Lib.hid hprs
      have HN := Lib.hid hn
      have HK := Lib.hid hok
      have BE := Lib.hid hbe
      have HO := Lib.hid hown
      have hz2r : w2.heap.size < wr.heap.size := by omega
      have hz2r' : w2.heap.size < wr.heap.size + 1 := by omega
      clear hb hx hr4 hcb hT hp' hprs hn hok hbe hown
      cases x
      · go_wp2
        go_roundw
        case rel => exact ⟨k + 1, n, A, c, bl, by omega, by go_num, rfl, HN.out, by omega, by have h1 := HT.out; rw [if_neg (by decide)] at h1; rw [h1, HP.out], HK.out, HO.out, BE.out⟩
        case measure => simp [intOf]; omega
      · go_wp2_with (at_builtin; refine wpList_append_own_at _ rfl (.tmp 16) (.tmp 21) 36 rfl w4.heap.size 26 i0 _ 2 32 Try.underlying36 hif hz0 hz1 hz2 rfl (Nat.zero_lt_two) (.slice A n c) n (bl.flatMap Blk.cells) rfl (HO.out.alloc _) ⟨wr.heap.size, 0, none⟩ 1 1 [.int .i64 b.a, .slice b.A b.ws.length b.c] rfl rfl ?_ ?_ ?_ ?_ ?_ ?_; exact lit2 wr _ _ _; exact one2 _ _ _ _; (unfold maxLen; omega); omega; (simp; omega); intro v3 w3 hown3 hg3 _ hat3; have HG3 := Lib.hid hg3; clear hg3 hat3)
        obtain ⟨A3, c3, rfl, hA3⟩ := own_form2 hown3
        go_roundw
        case rel =>
          refine ⟨k + 1, n + 1, A3, c3, bl ++ [b], by omega, by go_num, rfl, by have := HN.out; simp; omega, by omega, by have h1 := HT.out; rw [if_pos rfl] at h1; rw [h1, ← HP.out]; simp [prs], fun y hy => ?_, by simpa using hown3, ?_⟩
          · rcases List.mem_append.1 hy with hy | hy
            · exact HK.out y hy
            · obtain rfl := List.mem_singleton.1 hy
              exact HB.out
          · exact (BE.out.alloc hzr _).grown HG3.out (by simp; omega) (fun g hg => (HO.out.lt g hg).1)
        case measure => simp [intOf]; omega
    · obtain rfl : k = 8 := by omega
      have HP := Lib.hid hprs
      have HN := Lib.hid hn
      have HK := Lib.hid hok
      have hbw : Below w.heap.size w wr := BW.out.trans (hbe.mono hwz)
      clear hprs hn hok
      go_wp2
      go_ret
      obtain ⟨A', c', hv, h1, h2, h3⟩ := own_form2 hown
      obtain ⟨rfl, rfl⟩ : A = A' ∧ c = c' := by simpa using hv
      have hth := Stv.there_S so
      rw [ISO.out.S] at hth
      refine ⟨A, c, bl, ?_, by rw [HP.out]; exact hth, ⟨Recs.of_own2 HN.out hown, fun b hb => (HK.out b hb).to hbe⟩, by rw [← HN.out]; exact h2, h3, h1, hbw⟩
      rw [← HN.out]
      rfl
set_option maxHeartbeats 400000 in
theorem rsum_any (A : Option Addr) (l : List Blk) (c n : Nat) (ps : List Bk.Pr) (w : World) (h : Blks w w.heap.size A l) (hn : l.length = n) (hn2 : n ≤ 1000) (hc : n ≤ c) (hc2 : c ≤ 9223372036854775807) (hp : prs l = ps) :
    Calls Try.prog 33 #[.slice A n c] w fun e w' => e = .returned (.int .u32 (chk ps : Nat)) ∧ Below w.heap.size w w' := by
  subst hn hp
  obtain ⟨i0, hif, hz0, hz1, hz2⟩ := info_parts info_w16
  have hu := lsum_u16 (prs_u16 h.ok)
  have HU := Lib.hid hu
  have HL := Lib.hid (lsum_length (prs l))
  have HT := Lib.hid (show (prs l).take l.length = prs l by rw [List.take_of_length_le (by simp)])
  clear hu
  go_enter Try.func33, Try.ntmps33
  go_wp2
  go_loopw [3, 4] (fun v i wr => ∃ k m : Nat, ∃ A' c', k ≤ l.length ∧ i = .int .i64 k ∧ v = .slice A' m c' ∧ (lsum ((prs l).take k)).length = m ∧ wr.ownsRow w.heap.size 22 1 (.slice A' m c') m ((lsum ((prs l).take k)).map u16w) ∧ Below w.heap.size w wr) (fun _ i _ => l.length - (intOf i).toNat)
  case atStart => exact ⟨0, 0, none, 0, by omega, rfl, rfl, rfl, World.ownsRow_nil _ _ _ _, Below.refl _ _⟩
  case round =>
    obtain ⟨k, m, A', c', hk, rfl, rfl, hm, hown, hbe⟩ := hrel
    by_cases hlt : k < l.length
    · obtain ⟨g, o, b, rfl, hg, hb, hbo, hc0, hc1⟩ := (h.to hbe).at_ hlt
      have hltI : (k : Int) < (l.length : Int) := by omega
      have hkc : (k : Int) < (c : Int) := by omega
      have HLT := Lib.hid (lsum_take (prs_get hb))
      have hm16 : m ≤ 16000 := by rw [← hm, lsum_length]; simp; omega
      have HM := Lib.hid hm
      have ki := Lib.hid (rown_any b.a b.ws b.A b.c b.ws.length wr rfl hbo.sq hbo.u hbo.lo hbo.hi (Nat.le_trans hbo.ln hbo.cap))
      have HIL := Lib.hid (Stg.itself_length b.a b.ws)
      have HWN := hbe.size
      clear hb hm hbo
      go_wp2_with fail
      (with_reducible refine (ki.out).mono ?_)
      rintro e_ w1 ⟨A1, c1, rfl, o1, hb1⟩
      rw [HIL.out] at o1 ⊢
      have hown1 := own_below hown hb1
      have hbe1 : Below w.heap.size w w1 := hbe.trans (hb1.mono hbe.size)
      have S1 := Lib.hid (Sq.of_own o1)
      have N1 := Lib.hid (own_nil_c o1).1
      have O1 := Lib.hid hown1
      have B1 := Lib.hid hbe1
      have hz1' := hbe1.size
      clear hown o1 hown1 hb1 ki hbe1 hbe
      go_wp2_with (at_builtin; refine wpList_append_sq (f := u16w) _ rfl (.tmp 11) (.tmp 16) 24 rfl (fun _ => rfl) w.heap.size 22 i0 _ _ Try.underlying24 hif hz0 rfl hz1 hz2 (by decide) (.slice A' m c') (lsum ((prs l).take k)) rfl (by rw [HM.out]; exact O1.out) w1.heap.size A1 (Stg.itself b.a b.ws) c1 16 HIL.out rfl S1.out N1.out (by rw [HM.out]; omega) hz1' ?_; intro A2 c2 w2 o2 hg2 hb2; have HLEN := Lib.hid (show (lsum ((prs l).take k) ++ Stg.itself b.a b.ws).length = m + 16 by rw [List.length_append, HM.out, HIL.out]); rw [HLEN.out] at o2 ⊢; have O2 := Lib.hid o2; have B2 := Lib.hid (B1.out.trans hb2); clear o2 hg2 hb2)
      go_roundw
      case rel => exact ⟨k + 1, m + 16, A2, c2, by omega, by go_num, rfl, by rw [HLT.out]; exact HLEN.out, by rw [HLT.out]; exact O2.out, B2.out⟩
      case measure => simp [intOf]; omega
    · obtain rfl : k = l.length := by omega
      have HM := Lib.hid hm
      rw [HT.out] at HM hown
      have hs := Sq.of_own hown
      obtain rfl : m = (lsum (prs l)).length := HM.out.symm
      have ksw := Lib.hid (refWords_any A' c' (lsum (prs l)) wr hs HU.out (by rw [HL.out]; simp; omega))
      clear hm hown hs
      go_wp2_with fail
      (with_reducible refine (ksw.out).mono ?_)
      rintro e_ w2 ⟨rfl, hb2⟩
      have hbe2 : Below w.heap.size w w2 := hbe.trans (hb2.mono hbe.size)
      go_wp2
      go_ret
      exact ⟨rfl, hbe2⟩
end Go.Proofs.Ytopkncbpkccfbaa
