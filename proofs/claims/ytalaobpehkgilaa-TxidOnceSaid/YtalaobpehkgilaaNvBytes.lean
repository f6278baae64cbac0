/- Layer 10: Bytes. -/
import Derived.Test.YtalaobpehkgilaaNvWide
import Derived.Test.YtalaobpehkgilaaCk
import Derived.Test.YtalaobpehkgilaaHeld
import Derived.Test.YtalaobpehkgilaaAppN
namespace Go.Proofs.Ytalaobpehkgilaa
open Go.RowKit
set_option linter.unusedVariables false
attribute [local go_sem] Later.cell Later.frozen setCell_twice
theorem size_rec : (Try.prog.info? 35).map (·.size) = some 5 := by kernel_rfl
def BytesP (x : Nr) (w : World) (e : Ending) (w' : World) : Prop :=
  Below w.heap.size w w' ∧ if x.right = true then ∃ A' c', e = .returned (.tuple #[.slice A' x.bytes.length c', .int .i64 0]) ∧ w'.ownsRow w.heap.size 5 1 (.slice A' x.bytes.length c') x.bytes.length (x.bytes.map byw) else e = .returned (.tuple #[.slice none 0 0, .int .i64 50])
set_option maxRecDepth 100000 in
set_option maxHeartbeats 1000000 in
theorem nbytes_any (x : Nr) (A : Option Addr) (c n : Nat) (hn : x.text.length = n) (hf : x.Fit) (w : World) (hsq : Sq byw w w.heap.size A x.text) (hA : A = none → c = 0) :
    Calls Try.prog 20 #[.agg (rcV x.what x.tx x.who x.yes A n c).toArray] w (BytesP x w) := by
  obtain ⟨i0, hif, hz0, hz1, hz2⟩ := info_parts info_b8
  have HN := Lib.hid hn
  have HSQ := Lib.hid hsq
  have HF := Lib.hid hf
  have kr := Lib.hid (fun w => nright_any x A c n hn w)
  have R0 := Lib.hid (RowAt.new' w w.heap.size 35 (rcV x.what x.tx x.who x.yes A n c) rfl)
  have BE0 := Lib.hid (bel_alloc (Below.refl w.heap.size w) (.cells (rcV x.what x.tx x.who x.yes A n c).toArray 35))
  obtain ⟨r, hr⟩ : ∃ r, x.right = r := ⟨_, rfl⟩
  have HR := Lib.hid hr
  rw [hr] at kr
  clear hsq hf hr
  go_enter Try.func20, Try.ntmps20
  go_wp2_with (refine wpList_load_var rfl 35 (.tmp 1) rfl w.heap.size rfl (rcV x.what x.tx x.who x.yes A n c) _ 5 R0.out Try.underlying35 rfl size_rec rfl ?_)
  refine (kr.out _).mono ?_
  rintro e w1 ⟨rfl, b1⟩
  replace R0 := Lib.hid (R0.out.to b1)
  replace BE0 := Lib.hid (BE0.out.trans (b1.mono (by simp)))
  clear b1
  cases r
  · go_wp2
    go_ret2
    refine ⟨BE0.out, ?_⟩
    rw [HR.out, if_neg (by decide)]
    rfl
  · have hn8 : n ≤ 8192 := by have := Nr.right_len HR.out; omega
    have rclt : w.heap.size < (w1).heap.size := R0.out.lt
    have rclu : w.heap.size < (w1).heap.size + 1 := Nat.lt_succ_of_lt R0.out.lt
    have rc0 : (w1).cell? ⟨w.heap.size, 0, none⟩ = some (.int .u8 (x.what : Int)) := R0.out.cells 0
    have rcz0 : (w1).frozen? ⟨w.heap.size, 0, none⟩ = false := R0.out.frozen 0
    have rc1 : (w1).cell? ⟨w.heap.size, 1, none⟩ = some (.int .u32 (x.tx : Int)) := R0.out.cells 1
    have rcz1 : (w1).frozen? ⟨w.heap.size, 1, none⟩ = false := R0.out.frozen 1
    have rc2 : (w1).cell? ⟨w.heap.size, 2, none⟩ = some (.int .u8 (x.who : Int)) := R0.out.cells 2
    have rcz2 : (w1).frozen? ⟨w.heap.size, 2, none⟩ = false := R0.out.frozen 2
    have rc3 : (w1).cell? ⟨w.heap.size, 3, none⟩ = some (.bool x.yes) := R0.out.cells 3
    have rcz3 : (w1).frozen? ⟨w.heap.size, 3, none⟩ = false := R0.out.frozen 3
    have rc4 : (w1).cell? ⟨w.heap.size, 4, none⟩ = some (.slice A n c) := R0.out.cells 4
    have rcz4 : (w1).frozen? ⟨w.heap.size, 4, none⟩ = false := R0.out.frozen 4
    go_wp2_with (at_make; (refine wpList_make_own _ rfl _ _ 33 rfl w1.heap.size 5 i0 _ 1 Try.underlying33 hif hz0 hz1 _ _ _ (9 + n + 4) rfl rfl rfl (by rw [hz2]; omega) (by unfold Go.maxLen; omega) (by simp) ?_); intro w2 o2 hg2; have b2 := (Below.refl w1.heap.size _).grown hg2 (by simp) (by simp); have O2 := Lib.hid o2; have B2 := Lib.hid b2; clear o2 hg2 b2)
    have hlt : w.heap.size < w1.heap.size := R0.out.lt
    replace R0 := Lib.hid (R0.out.to B2.out)
    replace BE0 := Lib.hid (BE0.out.trans (B2.out.mono BE0.out.size))
    have hgl := B2.out.size
    obtain ⟨gb, hgb⟩ : ∃ gb, w1.heap.size = gb := ⟨_, rfl⟩
    rw [hgb] at O2 hlt hgl ⊢
    have O2' : Hid (w2.ownsRow gb 5 1 (.slice (some ⟨gb, 0, none⟩) 0 (9 + n + 4)) 0 (([] : List Nat).map byw)) := Lib.hid (by simpa using O2.out)
    clear hgb O2 B2
    have d0 : w2.cell? ⟨w.heap.size, 0, none⟩ = some (.int .u8 (x.what : Int)) := R0.out.cells 0
    have d1 : w2.cell? ⟨w.heap.size, 1, none⟩ = some (.int .u32 (x.tx : Int)) := R0.out.cells 1
    go_wp2_with fail
    refine wp_region_held_drew (S := (fun w' => w'.cell? ⟨w.heap.size, 0, none⟩ = some (.int .u8 (x.what : Int)) ∧ w'.cell? ⟨w.heap.size, 1, none⟩ = some (.int .u32 (x.tx : Int)))) (by kernel_rfl) ?_ (fun hHeld => ?_)
    · exact ⟨d0, d1⟩
    refine takeD (i := 0) (oi := _) (v := ?vv1) (d := some 17) rfl (by kernel_rfl) (by kernel_rfl) (by kernel_rfl) (by kernel_rfl) (fun _ _ _ h => h) (Or.inl ⟨by kernel_rfl, ?_⟩) (by assumption) ?_
    rotate_left 1
    · intro W_ hSw; (try dsimp only at hSw); go_simp; (first | done | with_reducible rfl)
    try simp only [Act.put, List.setIfInBounds_toArray, List.set_cons_zero, List.set_cons_succ]
    refine takeD (i := 1) (oi := _) (v := ?vv2) (d := some 18) rfl (by kernel_rfl) (by kernel_rfl) (by kernel_rfl) (by kernel_rfl) (fun _ _ _ h => h) (Or.inl ⟨by kernel_rfl, ?_⟩) (by assumption) ?_
    rotate_left 1
    · intro W_ hSw; (try dsimp only at hSw); go_simp; (first | done | with_reducible rfl)
    try simp only [Act.put, List.setIfInBounds_toArray, List.set_cons_zero, List.set_cons_succ]
    refine takeD (i := 2) (oi := _) (v := ?vv3) (d := some 19) rfl (by kernel_rfl) (by kernel_rfl) (by kernel_rfl) (by kernel_rfl) (fun _ _ _ h => h) (Or.inl ⟨by kernel_rfl, ?_⟩) (by assumption) ?_
    rotate_left 1
    · intro W_ hSw; (try dsimp only at hSw); go_simp; (first | done | with_reducible rfl)
    try simp only [Act.put, List.setIfInBounds_toArray, List.set_cons_zero, List.set_cons_succ]
    refine takeD (i := 5) (oi := _) (v := ?vv4) (d := some 22) rfl (by kernel_rfl) (by kernel_rfl) (by kernel_rfl) (by kernel_rfl) (fun _ _ _ h => h) (Or.inl ⟨by kernel_rfl, ?_⟩) (by assumption) ?_
    rotate_left 1
    · intro W_ hSw; (try dsimp only at hSw); go_simp; (first | done | with_reducible rfl)
    try simp only [Act.put, List.setIfInBounds_toArray, List.set_cons_zero, List.set_cons_succ]
    refine takeD (i := 6) (oi := _) (v := ?vv5) (d := some 23) rfl (by kernel_rfl) (by kernel_rfl) (by kernel_rfl) (by kernel_rfl) (fun _ _ _ h => h) (Or.inl ⟨by kernel_rfl, ?_⟩) (by assumption) ?_
    rotate_left 1
    · intro W_ hSw; (try dsimp only at hSw); go_simp; (first | done | with_reducible rfl)
    try simp only [Act.put, List.setIfInBounds_toArray, List.set_cons_zero, List.set_cons_succ]
    refine wpAnyH_ready (rs := [3]) (by kernel_rfl) (by simp) ?_
    refine AllReadyH.cons (o := _) rfl (fun K hK => ?_) AllReadyH.nil
    go_simp
    refine hK.out _ _ ?_ (fun hHeld => ?_)
    · exact ⟨keep_alloc d0, keep_alloc d1⟩
    clear hK K
    try simp only [Act.put]
    try simp only [List.setIfInBounds_toArray]
    try simp only [List.set_cons_succ]
    try simp only [List.set_cons_zero]
    refine wpAnyH_ready (rs := [4]) (by kernel_rfl) (by simp) ?_
    refine AllReadyH.cons (o := _) rfl (fun K hK => ?_) AllReadyH.nil
    (refine step_append_sq (f := byw) _ (by rfl) (.tmp 17) (.tmp 20) 33 (by rfl) (fun _ => rfl) gb 5 i0 _ _ Try.underlying33 hif hz0 rfl hz1 hz2 (by decide) (.slice (some ⟨gb, 0, none⟩) 0 (9 + n + 4)) [] (by rfl) (by first | exact own_below O2'.out (bel_alloc (Below.refl _ _).drew _) | exact own_below O2'.out.drew (bel_alloc (Below.refl _ _) _)) (w2.heap.size + 1) (some ⟨w2.heap.size, 0, none⟩) [x.what] 1 1 rfl (by rfl) (Sq.lits _ _ _ _ _ _ _ (by simp) (by simp) (by simp)) (by simp) (by simp) (by simp; omega) ?_; intro A3 c3 w3 o3 g3 b3; have O3 : Hid (w3.ownsRow gb 5 1 (.slice A3 1 c3) 1 ([x.what].map byw)) := Lib.hid o3; have B3 := Lib.hid b3; have e0 : w3.cell? ⟨w.heap.size, 0, none⟩ = some (.int .u8 (x.what : Int)) := (B3.out.cell (p := ⟨w.heap.size, 0, none⟩) hlt).trans (keep_alloc d0); have e1 : w3.cell? ⟨w.heap.size, 1, none⟩ = some (.int .u32 (x.tx : Int)) := (B3.out.cell (p := ⟨w.heap.size, 1, none⟩) hlt).trans (keep_alloc d1); clear o3 g3 b3)
    refine hK.out _ _ ?_ (fun hHeld => ?_)
    · exact ⟨e0, e1⟩
    clear hK K
    try simp only [Act.put]
    try simp only [List.setIfInBounds_toArray]
    try simp only [List.set_cons_succ]
    try simp only [List.set_cons_zero]
    have hlw : gb ≤ w3.heap.size := by have := B3.out.size; simp at this; omega
    refine wpAnyH_ready (rs := [7]) (by kernel_rfl) (by simp) ?_
    refine AllReadyH.cons (o := _) rfl (fun K hK => ?_) AllReadyH.nil
    go_simp
    (go_at_call 31; (with_reducible refine (wide_any A3 c3 1 x.tx gb 5 [x.what] rfl rfl HF.out.tx w3 O3.out hlw (by decide)).mono ?_); rintro e w4 ⟨A4, c4, rfl, o4, b4⟩; have O4 := Lib.hid o4; have B4 := Lib.hid b4; have f0 : w4.cell? ⟨w.heap.size, 0, none⟩ = some (.int .u8 (x.what : Int)) := (B4.out.cell (p := ⟨w.heap.size, 0, none⟩) hlt).trans e0; have f1 : w4.cell? ⟨w.heap.size, 1, none⟩ = some (.int .u32 (x.tx : Int)) := (B4.out.cell (p := ⟨w.heap.size, 1, none⟩) hlt).trans e1; clear o4 b4)
    go_wp2_with fail
    refine hK.out _ _ ?_ (fun hHeld => ?_)
    · exact ⟨f0, f1⟩
    clear hK K
    try simp only [Act.put, List.setIfInBounds_toArray, List.set_cons_zero, List.set_cons_succ]
    refine takeD (i := 8) (oi := _) (v := ?vv6) (d := some 5) rfl (by kernel_rfl) (by kernel_rfl) (by kernel_rfl) (by kernel_rfl) (fun _ _ _ h => h) (Or.inl ⟨by kernel_rfl, ?_⟩) (by assumption) ?_
    rotate_left 1
    · intro W_ hSw; (try dsimp only at hSw); go_simp; (first | done | with_reducible rfl)
    try simp only [Act.put, List.setIfInBounds_toArray, List.set_cons_zero, List.set_cons_succ]
    refine wpAnyH_done (by kernel_rfl) ?_ _
    have b24 : Below gb w2 w4 := ((((Below.refl gb w2).drew.alloc (by first | exact hgl | (simp; done) | (simp; omega)) _).trans B3.out).trans B4.out)
    have R4 := Lib.hid (R0.out.below b24 hlt)
    have BE4 := Lib.hid (BE0.out.trans (b24.mono (by omega)))
    have hlw4 : gb ≤ w4.heap.size := by have := b24.size; omega
    clear b24 B3 B4 d0 d1 e0 e1 f0 f1 O2' O3 R0 BE0
    have rdlt : w.heap.size < (w4).heap.size := R4.out.lt
    have rdlu : w.heap.size < (w4).heap.size + 1 := Nat.lt_succ_of_lt R4.out.lt
    have rd0 : (w4).cell? ⟨w.heap.size, 0, none⟩ = some (.int .u8 (x.what : Int)) := R4.out.cells 0
    have rdz0 : (w4).frozen? ⟨w.heap.size, 0, none⟩ = false := R4.out.frozen 0
    have rd1 : (w4).cell? ⟨w.heap.size, 1, none⟩ = some (.int .u32 (x.tx : Int)) := R4.out.cells 1
    have rdz1 : (w4).frozen? ⟨w.heap.size, 1, none⟩ = false := R4.out.frozen 1
    have rd2 : (w4).cell? ⟨w.heap.size, 2, none⟩ = some (.int .u8 (x.who : Int)) := R4.out.cells 2
    have rdz2 : (w4).frozen? ⟨w.heap.size, 2, none⟩ = false := R4.out.frozen 2
    have rd3 : (w4).cell? ⟨w.heap.size, 3, none⟩ = some (.bool x.yes) := R4.out.cells 3
    have rdz3 : (w4).frozen? ⟨w.heap.size, 3, none⟩ = false := R4.out.frozen 3
    have rd4 : (w4).cell? ⟨w.heap.size, 4, none⟩ = some (.slice A n c) := R4.out.cells 4
    have rdz4 : (w4).frozen? ⟨w.heap.size, 4, none⟩ = false := R4.out.frozen 4
    obtain ⟨y, hy⟩ : ∃ y, x.yes = y := ⟨_, rfl⟩
    have HY := Lib.hid hy
    rw [hy] at rd3
    clear hy
    cases y
    · go_wp2_with (first
        | (at_builtin; refine wpList_append_n (f := byw) _ rfl (.tmp 27) (.tmp 36) 33 rfl (fun _ => rfl) gb 5 i0 _ _ Try.underlying33 hif hz0 rfl hz1 hz2 (by decide) A4 c4 5 ([x.what] ++ Nr.four x.tx) rfl rfl (own_below O4.out (bel_alloc (Below.refl _ _) _)) (w4.heap.size + 1) (some ⟨w4.heap.size, 0, none⟩) [x.who, Nr.one x.yes, n / 256, n % 256] 4 4 rfl rfl (Sq.lits _ _ _ _ _ _ _ (by simp [HY.out, Nr.one]) rfl (by omega)) (by simp) 9 rfl (by decide) (by simp; omega) ?_; intro A5 c5 w5 o5 g5 b5; have O5 := Lib.hid o5; have B5 := Lib.hid (((Below.refl gb w4).alloc hlw4 _).trans b5); have re4 : w5.cell? ⟨w.heap.size, 4, none⟩ = some (.slice A n c) := (B5.out.cell (p := ⟨w.heap.size, 4, none⟩) hlt).trans rd4; have BE5 := Lib.hid (BE4.out.trans (B5.out.mono (by omega))); have hlw5 : gb ≤ w5.heap.size := Nat.le_trans hlw4 B5.out.size; clear o5 g5 b5)
        | (at_builtin; refine wpList_append_n (f := byw) _ rfl (.tmp 38) (.tmp 40) 33 rfl (fun _ => rfl) gb 5 i0 _ _ Try.underlying33 hif hz0 rfl hz1 hz2 (by decide) A5 c5 9 ([x.what] ++ Nr.four x.tx ++ [x.who, Nr.one x.yes, n / 256, n % 256]) rfl rfl O5.out w5.heap.size A x.text c n HN.out rfl ((HSQ.out.below BE5.out).more BE5.out.size) hA (9 + n) rfl (by omega) hlw5 ?_; intro A6 c6 w6 o6 g6 b6; have O6 := Lib.hid o6; have B6 := Lib.hid b6; have BE6 := Lib.hid (BE5.out.trans (B6.out.mono (by omega))); have hlw6 : gb ≤ w6.heap.size := Nat.le_trans hlw5 B6.out.size; clear o6 g6 b6))
      have hbody : [x.what] ++ Nr.four x.tx ++ [x.who, Nr.one x.yes, n / 256, n % 256] ++ x.text = Nr.body x := by
        rw [Nr.body, Nr.head, HN.out, Nat.mod_eq_of_lt (a := n / 256) (by omega)]
      have o6 := O6.out
      rw [hbody] at o6
      have hbl : (Nr.body x).length = 9 + n := by rw [Nr.body_length, HN.out]
      have HBL := Lib.hid hbl
      have hbb : Crc.bytes (Nr.body x) < 4294967296 := Crc.bytes_lt (Nr.body_u HF.out)
      have kc := ck_bytes_n A6 c6 (9 + n) (Nr.body x) w6.heap.size w6 (sq_nums (Sq.of_own o6)) (Nr.body_u HF.out) (by rw [hbl]; omega) hbl
      have kw := wide_any A6 c6 (9 + n) (Crc.bytes (Nr.body x)) gb (9 + n + 4) (Nr.body x) hbl rfl hbb w6 o6 hlw6 (by omega)
      have KW := Lib.hid kw
      obtain ⟨ck, hck⟩ : ∃ ck, Crc.bytes (Nr.body x) = ck := ⟨_, rfl⟩
      rw [hck] at kc KW hbb
      have HCK := Lib.hid hck
      clear hbody o6 hbl kw O6 O5 hck
      go_wp2_with fail
      refine kc.mono ?_
      rintro e w7 ⟨rfl, rfl⟩
      clear kc
      go_wp2_with fail
      refine KW.out.mono ?_
      rintro e w7 ⟨A7, c7, rfl, o7, b7⟩
      go_wp2
      go_ret2
      refine ⟨BE6.out.trans (b7.mono (by omega)), ?_⟩
      rw [HR.out, if_pos rfl]
      have hsz : x.bytes.length = 9 + n + 4 := by rw [Nr.bytes_length, Nr.size, HN.out]; omega
      have hbt : x.bytes = Nr.body x ++ Nr.four ck := by rw [Nr.bytes, HCK.out]
      rw [hsz, hbt]
      exact ⟨A7, c7, rfl, own_more o7 (by omega)⟩
    · go_wp2_with (first
        | (at_builtin; refine wpList_append_n (f := byw) _ rfl (.tmp 27) (.tmp 36) 33 rfl (fun _ => rfl) gb 5 i0 _ _ Try.underlying33 hif hz0 rfl hz1 hz2 (by decide) A4 c4 5 ([x.what] ++ Nr.four x.tx) rfl rfl (own_below O4.out (bel_alloc (Below.refl _ _) _)) (w4.heap.size + 1) (some ⟨w4.heap.size, 0, none⟩) [x.who, Nr.one x.yes, n / 256, n % 256] 4 4 rfl rfl (Sq.lits _ _ _ _ _ _ _ (by simp [HY.out, Nr.one]) rfl (by omega)) (by simp) 9 rfl (by decide) (by simp; omega) ?_; intro A5 c5 w5 o5 g5 b5; have O5 := Lib.hid o5; have B5 := Lib.hid (((Below.refl gb w4).alloc hlw4 _).trans b5); have re4 : w5.cell? ⟨w.heap.size, 4, none⟩ = some (.slice A n c) := (B5.out.cell (p := ⟨w.heap.size, 4, none⟩) hlt).trans rd4; have BE5 := Lib.hid (BE4.out.trans (B5.out.mono (by omega))); have hlw5 : gb ≤ w5.heap.size := Nat.le_trans hlw4 B5.out.size; clear o5 g5 b5)
        | (at_builtin; refine wpList_append_n (f := byw) _ rfl (.tmp 38) (.tmp 40) 33 rfl (fun _ => rfl) gb 5 i0 _ _ Try.underlying33 hif hz0 rfl hz1 hz2 (by decide) A5 c5 9 ([x.what] ++ Nr.four x.tx ++ [x.who, Nr.one x.yes, n / 256, n % 256]) rfl rfl O5.out w5.heap.size A x.text c n HN.out rfl ((HSQ.out.below BE5.out).more BE5.out.size) hA (9 + n) rfl (by omega) hlw5 ?_; intro A6 c6 w6 o6 g6 b6; have O6 := Lib.hid o6; have B6 := Lib.hid b6; have BE6 := Lib.hid (BE5.out.trans (B6.out.mono (by omega))); have hlw6 : gb ≤ w6.heap.size := Nat.le_trans hlw5 B6.out.size; clear o6 g6 b6))
      have hbody : [x.what] ++ Nr.four x.tx ++ [x.who, Nr.one x.yes, n / 256, n % 256] ++ x.text = Nr.body x := by
        rw [Nr.body, Nr.head, HN.out, Nat.mod_eq_of_lt (a := n / 256) (by omega)]
      have o6 := O6.out
      rw [hbody] at o6
      have hbl : (Nr.body x).length = 9 + n := by rw [Nr.body_length, HN.out]
      have HBL := Lib.hid hbl
      have hbb : Crc.bytes (Nr.body x) < 4294967296 := Crc.bytes_lt (Nr.body_u HF.out)
      have kc := ck_bytes_n A6 c6 (9 + n) (Nr.body x) w6.heap.size w6 (sq_nums (Sq.of_own o6)) (Nr.body_u HF.out) (by rw [hbl]; omega) hbl
      have kw := wide_any A6 c6 (9 + n) (Crc.bytes (Nr.body x)) gb (9 + n + 4) (Nr.body x) hbl rfl hbb w6 o6 hlw6 (by omega)
      have KW := Lib.hid kw
      obtain ⟨ck, hck⟩ : ∃ ck, Crc.bytes (Nr.body x) = ck := ⟨_, rfl⟩
      rw [hck] at kc KW hbb
      have HCK := Lib.hid hck
      clear hbody o6 hbl kw O6 O5 hck
      go_wp2_with fail
      refine kc.mono ?_
      rintro e w7 ⟨rfl, rfl⟩
      clear kc
      go_wp2_with fail
      refine KW.out.mono ?_
      rintro e w7 ⟨A7, c7, rfl, o7, b7⟩
      go_wp2
      go_ret2
      refine ⟨BE6.out.trans (b7.mono (by omega)), ?_⟩
      rw [HR.out, if_pos rfl]
      have hsz : x.bytes.length = 9 + n + 4 := by rw [Nr.bytes_length, Nr.size, HN.out]; omega
      have hbt : x.bytes = Nr.body x ++ Nr.four ck := by rw [Nr.bytes, HCK.out]
      rw [hsz, hbt]
      exact ⟨A7, c7, rfl, own_more o7 (by omega)⟩
end Go.Proofs.Ytalaobpehkgilaa
