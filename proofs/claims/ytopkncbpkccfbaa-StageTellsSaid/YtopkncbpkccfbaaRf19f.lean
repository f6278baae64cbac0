/- The walks of the reference of layer 19: Back, Put. -/
import Derived.Test.YtopkncbpkccfbaaRf19c
namespace Go.Proofs.Ytopkncbpkccfbaa
open Go.RowKit
set_option linter.unusedVariables false
set_option linter.unusedSimpArgs false
attribute [local go_sem] Later.cell Later.frozen setCell_twice
set_option maxRecDepth 100000 in
set_option maxHeartbeats 1000000 in
theorem rback_S {s : Stv} {B tx : Nat} {S : SS} (o : Nat) (n : Int) (l : List Nat) (w : World) (hs : s.Is w B tx S) (ho : o < 65536) (hl : ssBack o tx S n = l) : Calls Try.prog 31 #[.agg s.C.toArray, .int .u16 (o : Int), .int .i64 n] w (Makes u16w 22 w l) := by
  obtain ⟨i0, hif, hz0, hz1, hz2⟩ := info_parts info_w16
  subst hl
  by_cases h1 : n < 0
  · have HN := Lib.hid (show ssBack o tx S n = List.replicate 20 0 by unfold ssBack; rw [if_neg (by omega)]; rfl)
    go_enter Try.func31, Try.ntmps31
    go_wp2_with (at_make; refine wpList_make_full _ rfl _ _ 24 rfl w.heap.size 22 i0 (.int .u16 0) 1 Try.underlying24 hif hz0 hz1 _ _ _ _ 20 rfl rfl rfl rfl (by rw [hz2]; decide) (by decide) (by simp) ?_; intro w2 o2 hg2; have hb2 : Below w.heap.size w w2 := (bel_alloc (Below.refl _ _) _).grown hg2 (by simp) (by simp); have o2' : w2.ownsRow w.heap.size 22 1 (.slice (some ⟨w.heap.size + 1, 0, none⟩) 20 20) 20 ((List.replicate 20 0).map u16w) := (by rw [← made_w]; simpa using o2); have O2 := Lib.hid o2'; clear hg2 o2 o2')
    go_ret
    rw [HN.out]
    exact Makes.of_own (by simp) O2.out hb2
  have g1 : decide (n < 0) = false := decide_eq_false h1
  by_cases h2 : 7 < n
  · have HN := Lib.hid (show ssBack o tx S n = List.replicate 20 0 by unfold ssBack; rw [if_neg (by omega)]; rfl)
    go_enter Try.func31, Try.ntmps31
    go_wp2_with (at_make; refine wpList_make_full _ rfl _ _ 24 rfl w.heap.size 22 i0 (.int .u16 0) 1 Try.underlying24 hif hz0 hz1 _ _ _ _ 20 rfl rfl rfl rfl (by rw [hz2]; decide) (by decide) (by simp) ?_; intro w2 o2 hg2; have hb2 : Below w.heap.size w w2 := (bel_alloc (Below.refl _ _) _).grown hg2 (by simp) (by simp); have o2' : w2.ownsRow w.heap.size 22 1 (.slice (some ⟨w.heap.size + 1, 0, none⟩) 20 20) 20 ((List.replicate 20 0).map u16w) := (by rw [← made_w]; simpa using o2); have O2 := Lib.hid o2'; clear hg2 o2 o2')
    go_ret
    rw [HN.out]
    exact Makes.of_own (by simp) O2.out hb2
  have g2 : decide (7 < n) = false := decide_eq_false h2
  obtain ⟨k, rfl, hk⟩ : ∃ k : Nat, n = (k : Int) ∧ k < 8 := ⟨n.toNat, by omega, by omega⟩
  have hr := RowAt.new w 42 s.C
  obtain ⟨x, hx⟩ : ∃ x, s.hs.getD k false = x := ⟨_, rfl⟩
  obtain ⟨b, hb⟩ : ∃ b, s.bs[k]? = some b := ⟨_, List.getElem?_eq_getElem (by rw [hs.ok.lb]; exact hk)⟩
  have hltI : (k : Int) < 8 := by omega
  have h0I : (0 : Int) ≤ (k : Int) := by omega
  have d1 := (hr.cells (1 + k)).trans (by rw [Stv.C_have (getD_hs (by rw [hs.ok.lh]; exact hk)), hx])
  have hSk : S.getD k none = if x = true then some b.pr else none := by
    rw [← hs.S]; unfold Stv.S; rw [ssOf_get hk, hx]
    have : (prs s.bs).getD k (0, []) = b.pr := by rw [List.getD_eq_getElem?_getD, prs_get hb]; rfl
    rw [this]
  cases x
  · have HN := Lib.hid (show ssBack o tx S (k : Int) = List.replicate 20 0 by
      unfold ssBack; rw [if_pos (by omega), Int.toNat_natCast, hSk]; rfl)
    clear h1 h2 hx hSk hr hb
    go_enter Try.func31, Try.ntmps31
    go_wp2_with (at_make; refine wpList_make_full _ rfl _ _ 24 rfl w.heap.size 22 i0 (.int .u16 0) 1 Try.underlying24 hif hz0 hz1 _ _ _ _ 20 rfl rfl rfl rfl (by rw [hz2]; decide) (by decide) (by simp) ?_; intro w2 o2 hg2; have hb2 : Below w.heap.size w w2 := (bel_alloc (Below.refl _ _) _).grown hg2 (by simp) (by simp); have o2' : w2.ownsRow w.heap.size 22 1 (.slice (some ⟨w.heap.size + 1, 0, none⟩) 20 20) 20 ((List.replicate 20 0).map u16w) := (by rw [← made_w]; simpa using o2); have O2 := Lib.hid o2'; clear hg2 o2 o2')
    go_ret
    rw [HN.out]
    exact Makes.of_own (by simp) O2.out hb2
  · have HN := Lib.hid (show ssBack o tx S (k : Int) = Stg.tagged o tx k b.a b.ws by
      unfold ssBack; rw [if_pos (by omega), Int.toNat_natCast, hSk]; rfl)
    have htx := hs.ok.tx
    rw [hs.tx] at htx
    have d0 : (w.alloc (.cells s.C.toArray 42)).cell? ⟨w.heap.size, 0, none⟩ = some (.int .u32 (tx : Int)) := (hr.cells 0).trans (by rw [Stv.C_tx, hs.tx])
    have hcb := Stv.C_block hs.ok.lh hb
    have d2 := (hr.cells (9 + k * 2)).trans hcb.1
    have d3 := (hr.cells (9 + k * 2 + 1)).trans hcb.2
    have hbo := hs.ok.ok b (List.mem_of_getElem? hb)
    have kx := Lib.hid (fun W (hW : Below w.heap.size w W) => rown_any b.a b.ws b.A b.c b.ws.length W rfl (hbo.to hW).sq hbo.u hbo.lo hbo.hi (Nat.le_trans hbo.ln hbo.cap))
    have HI := Lib.hid (Stg.itself_length b.a b.ws)
    obtain ⟨hh, hhe⟩ : ∃ hh, tx / 65536 = hh := ⟨_, rfl⟩
    obtain ⟨ll, hle⟩ : ∃ ll, tx % 65536 = ll := ⟨_, rfl⟩
    have e1 : (tx : Int) / 65536 = (hh : Int) := by omega
    have e2 : (tx : Int) % 65536 = (ll : Int) := by omega
    have e3 : IntKind.u16.wrap (hh : Int) = (hh : Int) := by rw [wrap_u16]; omega
    have e4 : IntKind.u16.wrap (ll : Int) = (ll : Int) := by rw [wrap_u16]; omega
    have e5 : IntKind.u16.wrap (k : Int) = (k : Int) := by rw [wrap_u16]; omega
    have HT : Hid (Stg.tagged o tx k b.a b.ws = [o, hh, ll, k] ++ Stg.itself b.a b.ws) := Lib.hid (by unfold Stg.tagged; rw [hhe, hle]; rfl)
    have HTL := Lib.hid (Stg.tagged_length o tx k b.a b.ws)
    have O4 := Lib.hid (own_lit4 (w.alloc (.cells s.C.toArray 42)) o hh ll k)
    have d2' : ∀ oo, ((w.alloc (.cells s.C.toArray 42)).alloc oo).cell? ⟨w.heap.size, 9 + k * 2, none⟩ = some (.int .i64 b.a) := fun oo => keep_alloc d2
    have d3' : ∀ oo, ((w.alloc (.cells s.C.toArray 42)).alloc oo).cell? ⟨w.heap.size, 9 + k * 2 + 1, none⟩ = some (.slice b.A b.ws.length b.c) := fun oo => keep_alloc d3
    clear h1 h2 hx hSk hr hb hcb hbo hhe hle d2 d3
    go_enter Try.func31, Try.ntmps31
    go_wp2_with fail
    (with_reducible refine (kx.out _ (bel_alloc (bel_alloc (Below.refl _ _) _) _)).mono ?_)
    rintro e_ w2 ⟨A2, c2, rfl, o2, hb2⟩
    rw [HI.out] at o2 ⊢
    have q4 := own_below O4.out hb2
    simp only [World.size_alloc] at q4
    have S2 := Lib.hid (Sq.of_own o2)
    have N2 := Lib.hid (own_nil_c o2).1
    have B2 : Hid (Below w.heap.size w w2) := Lib.hid ((bel_alloc (bel_alloc (Below.refl _ _) _) _).trans (hb2.mono (by simp; omega)))
    have hz2' : w.heap.size + 1 ≤ w2.heap.size := by have := hb2.size; simp at this; omega
    have Q4 := Lib.hid q4
    clear o2 q4 hb2 d0 d1 d2' d3'
    go_wp2_with (at_builtin; refine wpList_append_sq (f := u16w) _ rfl (.tmp 34) (.tmp 39) 24 rfl (fun _ => rfl) (w.heap.size + 1) 22 i0 _ _ Try.underlying24 hif hz0 rfl hz1 hz2 (by decide) (.slice (some ⟨w.heap.size + 1, 0, none⟩) 4 4) [o, hh, ll, k] rfl Q4.out w2.heap.size A2 (Stg.itself b.a b.ws) c2 16 HI.out rfl S2.out N2.out (by simp) hz2' ?_; intro A3 c3 w3 o3 hg3 hb3; have O3 := Lib.hid o3; have B3 := Lib.hid hb3; clear o3 hg3 hb3)
    have o3 := O3.out
    rw [← HT.out, HTL.out] at o3
    rw [show (Stg.itself b.a b.ws).length + 1 + 1 + 1 + 1 = 20 by rw [HI.out]]
    go_ret
    rw [HN.out]
    exact Makes.of_own HTL.out (own_more o3 (Nat.le_succ _)) (B2.out.trans (B3.out.mono (Nat.le_succ _)))
end Go.Proofs.Ytopkncbpkccfbaa
