/- Layer 19: the reference's Read, whole; both Puts, whole; Light, Few. Layer 19: Words and Read, of both, by what they hand back. StageTells: what is too long, or too much. An api.Stage by value, opened: of which transaction, what is there, its blocks. StageTells: the walk. StageTells: for every input. -/
import Derived.Test.YtopkncbpkccfbaaRf19hi
import Derived.Test.YtopkncbpkccfbaaRf19g
import Derived.Test.YtopkncbpkccfbaaRf19b
import Derived.Test.YtopkncbpkccfbaaStgBack
import Derived.Test.YtopkncbpkccfbaaVar
import Derived.Test.YtopkncbpkccfbaaStSt
import Derived.OpenShut
import Derived.Lib.SmallJoins
import Derived.Test.YtopkncbpkccfbaaRf19e
import Derived.Test.YtopkncbpkccfbaaRf19f
import Derived.Test.YtopkncbpkccfbaaStgWh
import Derived.Test.YtopkncbpkccfbaaStgSum
import Derived.Test.YtopkncbpkccfbaaPutsW
import Derived.BigRegion
namespace Go.Proofs.Ytopkncbpkccfbaa
open Go.RowKit
set_option linter.unusedVariables false
set_option linter.unusedSimpArgs false
attribute [local go_sem] Later.cell Later.frozen setCell_twice
set_option maxHeartbeats 400000 in
theorem rread_any (v : List Nat) (A : Option Addr) (c n : Nat) (w : World) (hn : v.length = n) (sq : Sq u16w w w.heap.size A v) (hu : ∀ x ∈ v, x < 65536) (hc : n ≤ c) (hc2 : c ≤ 9223372036854775807) :
    Calls Try.prog 26 #[.slice A n c] w (ReadP w (Stg.read v)) := by
  by_cases h20 : n = 20
  · subst h20
    obtain ⟨b, o, rfl, hb, hcl⟩ := sq_at sq hn
    have c0 := hcl 0 (by omega)
    rw [Nat.add_zero] at c0
    have c1 := hcl 1 (by omega)
    have c2 := hcl 2 (by omega)
    have c3 := hcl 3 (by omega)
    have c4 := hcl 4 (by omega)
    have c5 := hcl 5 (by omega)
    have u0 := Bk.getD_u16 hu 0
    have u1 := Bk.getD_u16 hu 1
    have u2 := Bk.getD_u16 hu 2
    have u4 := Bk.getD_u16 hu 4
    have u5 := Bk.getD_u16 hu 5
    by_cases h3 : 8 ≤ v.getD 3 0
    · rw [show Stg.read v = Stg.none2 by unfold Stg.read; rw [if_pos (.inr h3)]]
      exact rread_num b o c _ w hb c3 h3 hc
    have h3' : ¬ (v.length ≠ 20 ∨ 8 ≤ v.getD 3 0) := by omega
    refine rread_go v b o c _ _ _ _ _ _ _ (Stg.read v) w hn hu sq hb c0 c1 c2 c3 c4 c5 (by omega) u0 u1 u2 u4 u5 hc hc2 rfl ?_
    unfold Stg.read
    rw [if_neg h3']
    rfl
  · rw [show Stg.read v = Stg.none2 by unfold Stg.read; rw [if_pos (.inl (by omega))]]
    exact rread_bad v A c n w hn h20
/-- what Put hands back, and its error -/
def putE (tx : Nat) (S : SS) (n : Int) (x : Blk) : Nat × SS × Int :=
  if n < 0 ∨ 7 < n then (0, ss0, 2) else if Bk.fits x.a x.ws.length = true then (tx, S.set n.toNat (some x.pr), 0) else (0, ss0, 20)
def PutE (w : World) (r : Nat × SS × Int) (e : Ending) (w' : World) : Prop :=
  ∃ s' : Stv, e = .returned (.tuple #[.agg s'.C.toArray, .int .i64 r.2.2]) ∧ s'.Is w' w.heap.size r.1 r.2.1 ∧ Below w.heap.size w w'
theorem put_all {s : Stv} {base tx : Nat} {S : SS} (n : Int) (x : Blk) (w : World) (hs : s.Is w base tx S) (hx : x.Ok w w.heap.size) :
    Calls Try.prog 15 #[.agg s.C.toArray, .int .i64 n, .agg #[.int .i64 x.a, .slice x.A x.ws.length x.c]] w (PutE w (putE tx S n x)) := by
  unfold putE
  by_cases h : n < 0 ∨ 7 < n
  · rw [if_pos h]
    exact (put_bad0 s.C n x.a x.A x.c x.ws.length w h).mono fun e w' ⟨he, hb⟩ => ⟨Stv.zero, he, Stv.zero_is _ _, hb⟩
  rw [if_neg h]
  cases hf : Bk.fits x.a x.ws.length
  · rw [if_neg (by simp)]
    exact (put_nofit0 s.C n x.a x.A x.c x.ws.length w (by omega) hx.lo hx.hi (Nat.le_trans hx.ln hx.cap) hf).mono fun e w' ⟨he, hb⟩ => ⟨Stv.zero, he, Stv.zero_is _ _, hb⟩
  · rw [if_pos rfl]
    obtain ⟨m, rfl⟩ : ∃ m : Nat, n = (m : Int) := ⟨n.toNat, by omega⟩
    exact (put_S m x w hs hx (by omega) hf).mono fun e w' ⟨s', he, hi, hb⟩ => ⟨s', he, by rw [Int.toNat_natCast]; exact hi, hb⟩
theorem rput_all {s : Stv} {base tx : Nat} {S : SS} (n : Int) (x : Blk) (w : World) (hs : s.Is w base tx S) (hx : x.Ok w w.heap.size) :
    Calls Try.prog 29 #[.agg s.C.toArray, .int .i64 n, .agg #[.int .i64 x.a, .slice x.A x.ws.length x.c]] w (PutE w (putE tx S n x)) := by
  unfold putE
  by_cases h : n < 0 ∨ 7 < n
  · rw [if_pos h]
    exact (rput_bad s.C n x.a x.A x.c x.ws.length w h).mono fun e w' ⟨he, hb⟩ => ⟨Stv.zero, he, Stv.zero_is _ _, hb⟩
  rw [if_neg h]
  cases hf : Bk.fits x.a x.ws.length
  · rw [if_neg (by simp)]
    exact (rput_nofit s.C n x.a x.A x.c x.ws.length w (by omega) hx.lo hx.hi (Nat.le_trans hx.ln hx.cap) hf).mono fun e w' ⟨he, hb⟩ => ⟨Stv.zero, he, Stv.zero_is _ _, hb⟩
  · rw [if_pos rfl]
    obtain ⟨m, rfl⟩ : ∃ m : Nat, n = (m : Int) := ⟨n.toNat, by omega⟩
    exact (rput_S m x w hs hx (by omega) hf).mono fun e w' ⟨s', he, hi, hb⟩ => ⟨s', he, by rw [Int.toNat_natCast]; exact hi, hb⟩
def light (l : List Blk) : Bool := decide ((∀ b ∈ l, b.ws.length ≤ 100) ∧ l.length ≤ 40)
set_option maxHeartbeats 400000 in
theorem light_any (A : Option Addr) (l : List Blk) (c n : Nat) (r : Bool) (w : World) (hn : l.length = n) (h : Blks w w.heap.size A l) (hnc : n ≤ c) (hc : c ≤ 9223372036854775807) (hr : light l = r) :
    Calls Try.prog 24 #[.slice A n c] w fun e w' => e = .returned (.bool r) ∧ Below w.heap.size w w' := by
  have HR := Lib.hid hr
  have HN := Lib.hid hn
  have HB := Lib.hid h
  clear hr hn h
  go_enter Try.func24, Try.ntmps24
  go_wp2
  go_loopw [7] (fun i wr => ∃ k : Nat, k ≤ n ∧ i = .int .i64 k ∧ Hid (∀ b ∈ l.take k, b.ws.length ≤ 100) ∧ Below w.heap.size w wr) (fun i _ => n - (intOf i).toNat)
  case atStart => exact ⟨0, by omega, rfl, Lib.hid (by simp), Below.refl _ _⟩
  case round =>
    obtain ⟨k, hk, rfl, hall, hbe⟩ := hrel
    by_cases hlt : k < n
    · obtain ⟨g, o, b, rfl, hg, hb, hok, d0, d1⟩ := (HB.out.below hbe).at_ (k := k) (by rw [HN.out]; exact hlt)
      have hltI : (k : Int) < (n : Int) := by omega
      have h0I : (0 : Int) ≤ (k : Int) := by omega
      have BE := Lib.hid hbe
      have HBK := Lib.hid hb
      have hgr : g < wr.heap.size := Nat.lt_of_lt_of_le hg hbe.size
      clear hok hb hbe
      by_cases h1 : 100 < b.ws.length
      · have g1 : decide ((100 : Int) < (b.ws.length : Int)) = true := decide_eq_true (by omega)
        obtain rfl : r = false := by
          rw [← HR.out]
          refine decide_eq_false (fun q => ?_)
          have := q.1 b (List.mem_of_getElem? HBK.out)
          omega
        go_wp2
        go_ret
        exact ⟨rfl, bel_alloc BE.out _⟩
      · have g1 : decide ((100 : Int) < (b.ws.length : Int)) = false := decide_eq_false (by omega)
        go_wp2
        go_roundw
        case rel =>
          refine ⟨k + 1, by omega, by go_num, Lib.hid (fun b' hb' => ?_), bel_alloc BE.out _⟩
          rw [List.take_add_one, HBK.out] at hb'
          rcases List.mem_append.1 hb' with h2 | h2
          · exact hall.out b' h2
          · obtain rfl : b' = b := by simpa using h2
            omega
        case measure => simp [intOf]; omega
    · obtain rfl : k = n := by omega
      have hall' : ∀ b ∈ l, b.ws.length ≤ 100 := by
        have := hall.out
        rwa [List.take_of_length_le (by rw [HN.out]; omega)] at this
      have HQ := Lib.hid (show decide ((k : Int) ≤ 40) = r by
        rw [← HR.out]
        unfold light
        by_cases h4 : k ≤ 40
        · rw [decide_eq_true (show (k : Int) ≤ 40 by omega), decide_eq_true ⟨hall', by rw [HN.out]; exact h4⟩]
        · rw [decide_eq_false (show ¬ (k : Int) ≤ 40 by omega), decide_eq_false (fun q => h4 (by have := q.2; rw [HN.out] at this; exact this))])
      go_wp2
      go_ret
      exact ⟨by rw [← HQ.out]; rfl, hbe⟩
theorem RowAt.blks {w : World} {g : Nat} {s : Stv} (h : RowAt w g 42 s.C) (hs : s.Ok w w.heap.size) : Blks w w.heap.size (some ⟨g, 9, none⟩) s.bs :=
  ⟨fun _ => ⟨g, 9, rfl, h.lt, fun j b hj i v hi => by
    have hf := Stv.C_block hs.lh hj
    match i, hi with
    | 0, hi => exact (h.cells _).trans (by rw [Nat.add_zero, hf.1]; simpa using hi)
    | 1, hi => exact (h.cells _).trans (hf.2.trans (by simpa using hi))
    | i + 2, hi => simp at hi⟩, hs.ok⟩
set_option maxRecDepth 100000 in
set_option maxHeartbeats 400000 in
theorem few_any (s : Stv) (r : Bool) (w : World) (hs : s.Ok w w.heap.size) (hr : light s.bs = r) :
    Calls Try.prog 23 #[.agg s.C.toArray] w fun e w' => e = .returned (.bool r) ∧ Below w.heap.size w w' := by
  have HROW := RowAt.new w 42 s.C
  have kl := Lib.hid (light_any (some ⟨w.heap.size, 9, none⟩) s.bs 8 8 r _ hs.lb (HROW.blks (hs.to (bel_alloc (Below.refl _ _) (.cells s.C.toArray 42)))) (by omega) (by omega) hr)
  clear hr hs
  go_enter Try.func23, Try.ntmps23
  go_wp2_with fail
  go_wp2_with fail
  refine (kl.out).mono ?_
  rintro e_x1 w_x1 ⟨rfl, hb_x1⟩
  obtain ⟨x1, rfl⟩ := later_is hb_x1
  clear hb_x1
  have hz_x1 := x1.bel.size
  try simp at hz_x1
  go_wp2
  go_ret
  exact ⟨rfl, (by repeat (first | exact Below.refl _ _ | refine bel_later _ ?_ | refine bel_alloc ?_ _ | refine bel_set ?_ (by first | omega | (simp; done) | (simp; omega)) _ | refine Below.drew ?_ | refine bel_drewN ?_ _ | assumption))⟩
end Go.Proofs.Ytopkncbpkccfbaa
namespace Go.Proofs.Ytopkncbpkccfbaa
open Go.RowKit
set_option linter.unusedVariables false
theorem rwords_lit (o t : Nat) (k a : Int) (ws : List Nat) (A : Option Addr) (c n : Nat) (l : List Nat) (m : Nat) (E : Int) (w : World) (ho : o < 65536) (ht : t < 4294967296) (hn : ws.length = n) (sq : Sq u16w w w.heap.size A ws) (hu : ∀ x ∈ ws, x < 65536) (lo : -9223372036854775808 ≤ a) (hi : a ≤ 9223372036854775807) (hnc : ws.length ≤ 9223372036854775807) (hr : Stg.words o t k a ws = (l, E)) (hm : l.length = m) :
    Calls Try.prog 25 #[.int .u16 (o : Int), .int .u32 (t : Int), .int .i64 k, .agg #[.int .i64 a, .slice A n c]] w (WordsV w l m E) := by
  subst hm
  have := rwords_any o t k a ws A c n w ho ht hn sq hu lo hi hnc
  rw [hr] at this
  exact this
theorem rread_lit (v : List Nat) (A : Option Addr) (c n : Nat) (r : Stg.R) (O T N Aa E : Int) (m : Nat) (w : World) (hn : v.length = n) (sq : Sq u16w w w.heap.size A v) (hu : ∀ x ∈ v, x < 65536) (hc : n ≤ c) (hc2 : c ≤ 9223372036854775807) (hr : Stg.read v = r) (h0 : (r.o : Int) = O) (h1 : (r.t : Int) = T) (h2 : (r.n : Int) = N) (h3 : (r.a : Int) = Aa) (h4 : r.ws.length = m) (h5 : r.e = E) :
    Calls Try.prog 26 #[.slice A n c] w (ReadV w O T N Aa E r.ws m) := by
  subst hr h0 h1 h2 h3 h4 h5
  exact rread_any v A c n w hn sq hu hc hc2
theorem Stg.read_a {v : List Nat} (h : ∀ x ∈ v, x < 65536) : (Stg.read v).a < 65536 := by
  have b4 := Bk.getD_u16 h 4
  unfold Stg.read
  split
  · decide
  split
  · decide
  split
  · exact b4
  · decide
/-- what Put hands back, by numbers -/
def PutV (w : World) (tx : Nat) (S : SS) (E : Int) (e : Ending) (w' : World) : Prop :=
  ∃ s' : Stv, e = .returned (.tuple #[.agg s'.C.toArray, .int .i64 E]) ∧ s'.Is w' w.heap.size tx S ∧ Below w.heap.size w w'
theorem words_len {o t : Nat} {k a : Int} {ws : List Nat} {l : List Nat} {E : Int} (h : Stg.words o t k a ws = (l, E)) : l.length ≤ 20 := by
  unfold Stg.words at h
  split at h
  · cases h; simp
  split at h
  · cases h; exact Nat.le_of_eq (Stg.tagged_length _ _ _ _ _)
  · cases h; simp
end Go.Proofs.Ytopkncbpkccfbaa
namespace Go.Proofs.Ytopkncbpkccfbaa
open Go.RowKit
set_option linter.unusedVariables false
set_option linter.unusedSimpArgs false
attribute [local go_sem] Later.cell Later.frozen setCell_twice
set_option maxRecDepth 100000 in
set_option maxHeartbeats 1000000 in
theorem tells_short (ow t : Nat) (n : Int) (x : Blk) (v : List Nat) (Av : Option Addr) (cv : Nat) (s o : Stv) (l : List Blk) (Al : Option Addr) (cl ch : Nat) (w : World)
    (hs : s.Ok w w.heap.size) (ho : o.Ok w w.heap.size) (hl : Blks w w.heap.size Al l) (hcl : l.length ≤ cl) (hcl2 : cl ≤ 9223372036854775807)
    (h : 100 < x.ws.length ∨ 40 < v.length ∨ light s.bs = false ∨ light o.bs = false ∨ light l = false) :
    Calls Try.prog 8 #[.int .u16 (ow : Int), .int .u32 (t : Int), .int .i64 n, .agg #[.int .i64 x.a, .slice x.A x.ws.length x.c], .slice Av v.length cv, .agg s.C.toArray, .agg o.C.toArray, .slice Al l.length cl, .int .u32 (ch : Int)] w fun e w' => e = .returned (.bool true) ∧ Below w.heap.size w w' := by
  have hR14 : RowAt (((w.alloc (.cells #[.int .i64 x.a, .slice x.A x.ws.length x.c] 26)).alloc (.cells s.C.toArray 42)).alloc (.cells o.C.toArray 42)) (w.heap.size + 1) 42 s.C := by
    have := (RowAt.new (w.alloc (.cells #[.int .i64 x.a, .slice x.A x.ws.length x.c] 26)) 42 s.C).alloc (.cells o.C.toArray 42)
    simpa using this
  have hR15 : RowAt (((w.alloc (.cells #[.int .i64 x.a, .slice x.A x.ws.length x.c] 26)).alloc (.cells s.C.toArray 42)).alloc (.cells o.C.toArray 42)) (w.heap.size + 1 + 1) 42 o.C := by
    have := RowAt.new ((w.alloc (.cells #[.int .i64 x.a, .slice x.A x.ws.length x.c] 26)).alloc (.cells s.C.toArray 42)) 42 o.C
    simpa using this
  have R14 := Lib.hid hR14
  have R15 := Lib.hid hR15
  have HC := Lib.hid (Stv.C_length hs.lh hs.lb)
  have HD := Lib.hid (Stv.C_length ho.lh ho.lb)
  clear hR14 hR15
  by_cases h1 : 100 < x.ws.length
  · have g1 : decide ((100 : Int) < (x.ws.length : Int)) = true := decide_eq_true (by omega)
    clear h
    go_enter Try.func8, Try.ntmps8
    go_wp2_with fail
    refine (awake_any _).mono ?_
    rintro e_x9 w_x9 ⟨rfl, hb_x9⟩
    obtain ⟨x9, rfl⟩ := later_is hb_x9
    clear hb_x9
    have hz_x9 := x9.bel.size
    try simp at hz_x9
    go_wp2
    go_ret
    exact ⟨rfl, (by repeat (first | exact Below.refl _ _ | refine bel_later _ ?_ | refine bel_alloc ?_ _ | refine bel_set ?_ (by first | omega | (simp; done) | (simp; omega)) _ | refine Below.drew ?_ | refine bel_drewN ?_ _ | assumption))⟩
  have g1 : decide ((100 : Int) < (x.ws.length : Int)) = false := decide_eq_false (by omega)
  by_cases h2 : 40 < v.length
  · have g2 : decide ((40 : Int) < (v.length : Int)) = true := decide_eq_true (by omega)
    clear h
    go_enter Try.func8, Try.ntmps8
    go_wp2_with fail
    refine (awake_any _).mono ?_
    rintro e_x9 w_x9 ⟨rfl, hb_x9⟩
    obtain ⟨x9, rfl⟩ := later_is hb_x9
    clear hb_x9
    have hz_x9 := x9.bel.size
    try simp at hz_x9
    go_wp2
    go_ret
    exact ⟨rfl, (by repeat (first | exact Below.refl _ _ | refine bel_later _ ?_ | refine bel_alloc ?_ _ | refine bel_set ?_ (by first | omega | (simp; done) | (simp; omega)) _ | refine Below.drew ?_ | refine bel_drewN ?_ _ | assumption))⟩
  have g2 : decide ((40 : Int) < (v.length : Int)) = false := decide_eq_false (by omega)
  have h' : light s.bs = false ∨ light o.bs = false ∨ light l = false := by
    rcases h with h | h | h
    · exact absurd h h1
    · exact absurd h h2
    · exact h
  clear h h1 h2
  cases h3 : light s.bs
  · have kf := Lib.hid (fun W (hW : Below w.heap.size w W) => few_any s false W (hs.to hW) h3)
    clear h'
    go_enter Try.func8, Try.ntmps8
    go_wp2_with (refine wpList_load_var rfl 42 (.tmp 14) rfl (w.heap.size + 1) rfl s.C _ 25 R14.out Try.underlying42 rfl size_25 HC.out ?_)
    go_wp2_with fail
    refine (kf.out _ (by repeat (first | exact Below.refl _ _ | refine bel_later _ ?_ | refine bel_alloc ?_ _ | refine bel_set ?_ (by first | omega | (simp; done) | (simp; omega)) _ | refine Below.drew ?_ | refine bel_drewN ?_ _ | assumption))).mono ?_
    rintro e_x1 w_x1 ⟨rfl, hb_x1⟩
    obtain ⟨x1, rfl⟩ := later_is hb_x1
    clear hb_x1
    have hz_x1 := x1.bel.size
    try simp at hz_x1
    go_wp2_with fail
    refine (awake_any _).mono ?_
    rintro e_x9 w_x9 ⟨rfl, hb_x9⟩
    obtain ⟨x9, rfl⟩ := later_is hb_x9
    clear hb_x9
    have hz_x9 := x9.bel.size
    try simp at hz_x9
    go_wp2
    go_ret
    exact ⟨rfl, (by repeat (first | exact Below.refl _ _ | refine bel_later _ ?_ | refine bel_alloc ?_ _ | refine bel_set ?_ (by first | omega | (simp; done) | (simp; omega)) _ | refine Below.drew ?_ | refine bel_drewN ?_ _ | assumption))⟩
  have kf := Lib.hid (fun W (hW : Below w.heap.size w W) => few_any s true W (hs.to hW) h3)
  have h'' : light o.bs = false ∨ light l = false := h'.resolve_left (by rw [h3]; decide)
  clear h' h3
  cases h4 : light o.bs
  · have kg := Lib.hid (fun W (hW : Below w.heap.size w W) => few_any o false W (ho.to hW) h4)
    clear h''
    go_enter Try.func8, Try.ntmps8
    go_wp2_with (refine wpList_load_var rfl 42 (.tmp 14) rfl (w.heap.size + 1) rfl s.C _ 25 R14.out Try.underlying42 rfl size_25 HC.out ?_)
    go_wp2_with fail
    refine (kf.out _ (by repeat (first | exact Below.refl _ _ | refine bel_later _ ?_ | refine bel_alloc ?_ _ | refine bel_set ?_ (by first | omega | (simp; done) | (simp; omega)) _ | refine Below.drew ?_ | refine bel_drewN ?_ _ | assumption))).mono ?_
    rintro e_x1 w_x1 ⟨rfl, hb_x1⟩
    obtain ⟨x1, rfl⟩ := later_is hb_x1
    clear hb_x1
    have hz_x1 := x1.bel.size
    try simp at hz_x1
    have R15' := Lib.hid (R15.out.to x1.bel)
    go_wp2_with (refine wpList_load_var rfl 42 (.tmp 15) rfl (w.heap.size + 1 + 1) rfl o.C _ 25 R15'.out Try.underlying42 rfl size_25 HD.out ?_)
    go_wp2_with fail
    refine (kg.out _ (by repeat (first | exact Below.refl _ _ | refine bel_later _ ?_ | refine bel_alloc ?_ _ | refine bel_set ?_ (by first | omega | (simp; done) | (simp; omega)) _ | refine Below.drew ?_ | refine bel_drewN ?_ _ | assumption))).mono ?_
    rintro e_x2 w_x2 ⟨rfl, hb_x2⟩
    obtain ⟨x2, rfl⟩ := later_is hb_x2
    clear hb_x2
    have hz_x2 := x2.bel.size
    try simp at hz_x2
    go_wp2_with fail
    refine (awake_any _).mono ?_
    rintro e_x9 w_x9 ⟨rfl, hb_x9⟩
    obtain ⟨x9, rfl⟩ := later_is hb_x9
    clear hb_x9
    have hz_x9 := x9.bel.size
    try simp at hz_x9
    go_wp2
    go_ret
    exact ⟨rfl, (by repeat (first | exact Below.refl _ _ | refine bel_later _ ?_ | refine bel_alloc ?_ _ | refine bel_set ?_ (by first | omega | (simp; done) | (simp; omega)) _ | refine Below.drew ?_ | refine bel_drewN ?_ _ | assumption))⟩
  have kg := Lib.hid (fun W (hW : Below w.heap.size w W) => few_any o true W (ho.to hW) h4)
  have h5 : light l = false := h''.resolve_left (by rw [h4]; decide)
  have kl := Lib.hid (fun W (hW : Below w.heap.size w W) => light_any Al l cl l.length false W rfl ((hl.below hW).more hW.size) hcl hcl2 h5)
  clear h'' h4 h5
  go_enter Try.func8, Try.ntmps8
  go_wp2_with (refine wpList_load_var rfl 42 (.tmp 14) rfl (w.heap.size + 1) rfl s.C _ 25 R14.out Try.underlying42 rfl size_25 HC.out ?_)
  go_wp2_with fail
  refine (kf.out _ (by repeat (first | exact Below.refl _ _ | refine bel_later _ ?_ | refine bel_alloc ?_ _ | refine bel_set ?_ (by first | omega | (simp; done) | (simp; omega)) _ | refine Below.drew ?_ | refine bel_drewN ?_ _ | assumption))).mono ?_
  rintro e_x1 w_x1 ⟨rfl, hb_x1⟩
  obtain ⟨x1, rfl⟩ := later_is hb_x1
  clear hb_x1
  have hz_x1 := x1.bel.size
  try simp at hz_x1
  have R15' := Lib.hid (R15.out.to x1.bel)
  go_wp2_with (refine wpList_load_var rfl 42 (.tmp 15) rfl (w.heap.size + 1 + 1) rfl o.C _ 25 R15'.out Try.underlying42 rfl size_25 HD.out ?_)
  go_wp2_with fail
  refine (kg.out _ (by repeat (first | exact Below.refl _ _ | refine bel_later _ ?_ | refine bel_alloc ?_ _ | refine bel_set ?_ (by first | omega | (simp; done) | (simp; omega)) _ | refine Below.drew ?_ | refine bel_drewN ?_ _ | assumption))).mono ?_
  rintro e_x2 w_x2 ⟨rfl, hb_x2⟩
  obtain ⟨x2, rfl⟩ := later_is hb_x2
  clear hb_x2
  have hz_x2 := x2.bel.size
  try simp at hz_x2
  go_wp2_with fail
  refine (kl.out _ (by repeat (first | exact Below.refl _ _ | refine bel_later _ ?_ | refine bel_alloc ?_ _ | refine bel_set ?_ (by first | omega | (simp; done) | (simp; omega)) _ | refine Below.drew ?_ | refine bel_drewN ?_ _ | assumption))).mono ?_
  rintro e_x3 w_x3 ⟨rfl, hb_x3⟩
  obtain ⟨x3, rfl⟩ := later_is hb_x3
  clear hb_x3
  have hz_x3 := x3.bel.size
  try simp at hz_x3
  go_wp2_with fail
  refine (awake_any _).mono ?_
  rintro e_x9 w_x9 ⟨rfl, hb_x9⟩
  obtain ⟨x9, rfl⟩ := later_is hb_x9
  clear hb_x9
  have hz_x9 := x9.bel.size
  try simp at hz_x9
  go_wp2
  go_ret
  exact ⟨rfl, (by repeat (first | exact Below.refl _ _ | refine bel_later _ ?_ | refine bel_alloc ?_ _ | refine bel_set ?_ (by first | omega | (simp; done) | (simp; omega)) _ | refine Below.drew ?_ | refine bel_drewN ?_ _ | assumption))⟩
end Go.Proofs.Ytopkncbpkccfbaa
namespace Go.Proofs.Ytopkncbpkccfbaa
open Go.RowKit Go.ChangeShapes Go.WideShapes Go.ChangeAt Go.Joins Go.Deep
set_option linter.unusedVariables false
theorem list_chunks {α β : Type} (f : α → List β) (s : Nat) (Q : α → Prop) : ∀ (n : Nat) (L : List β), L.length = n * s → (∀ i, i < n → ∃ a, (L.drop (i * s)).take s = f a ∧ Q a) → ∃ zs : List α, zs.length = n ∧ L = zs.flatMap f ∧ ∀ a ∈ zs, Q a
  | 0, L, hl, _ => ⟨[], rfl, by simpa using hl, fun _ h => by cases h⟩
  | n + 1, L, hl, h => by
    obtain ⟨a, ha, hq⟩ := h 0 (by omega)
    have hl2 : (L.drop s).length = n * s := by rw [List.length_drop, hl, Nat.succ_mul]; omega
    obtain ⟨zs, h1, h2, h3⟩ := list_chunks f s Q n (L.drop s) hl2 (fun i hi => by
      obtain ⟨b, hb, hqb⟩ := h (i + 1) (by omega)
      refine ⟨b, ?_, hqb⟩
      rw [List.drop_drop, ← hb, Nat.succ_mul, Nat.add_comm])
    refine ⟨a :: zs, by simp [h1], ?_, fun b hb => by
      rcases List.mem_cons.1 hb with rfl | hb
      · exact hq
      · exact h3 b hb⟩
    rw [List.flatMap_cons, ← h2, ← ha, Nat.zero_mul, List.drop_zero, List.take_append_drop]
section
variable {H : Type} {enc : TypeId × Value → H} {w : World} {base b0 : Nat} {spare : Nat → Bool} {held : Bool} {r : Reach}
theorem flat_one (l : List Bool) : (l.flatMap fun b => [Value.bool b]) = l.map Value.bool := by
  induction l with
  | nil => rfl
  | cons a l ih => simp [List.flatMap_cons, ih]
theorem stage_trod (n : Nat) (cs : List Value) (y : DataW H × List MemPlace) (h : DataW.trod enc Try.prog w base spare held n 42 cs = some y) : ∃ s : Stv, cs = s.C ∧ s.Ok w w.heap.size := by
  obtain ⟨hl, n, hf⟩ := trod_field Try.underlying42 h
  have hC : Try.prog.cellsOf 42 = 25 := by kernel_rfl
  have hC0 : Try.prog.cellsOf 23 = 1 := by kernel_rfl
  have hC1 : Try.prog.cellsOf 39 = 8 := by kernel_rfl
  have hC2 : Try.prog.cellsOf 40 = 16 := by kernel_rfl
  have hCb : Try.prog.cellsOf 4 = 1 := by kernel_rfl
  have hCk : Try.prog.cellsOf 26 = 2 := by kernel_rfl
  rw [hC] at hl
  obtain ⟨y0, h0⟩ := hf 0 _ rfl
  obtain ⟨y1, h1⟩ := hf 1 _ rfl
  obtain ⟨y2, h2⟩ := hf 2 _ rfl
  replace h0 : DataW.trod enc Try.prog w base spare held n 23 ((cs.drop 0).take (Try.prog.cellsOf 23)) = some y0 := h0
  rw [hC0] at h0
  replace h1 : DataW.trod enc Try.prog w base spare held n 39 ((cs.drop 1).take (Try.prog.cellsOf 39)) = some y1 := h1
  rw [hC1] at h1
  replace h2 : DataW.trod enc Try.prog w base spare held n 40 ((cs.drop 9).take (Try.prog.cellsOf 40)) = some y2 := h2
  rw [hC2] at h2
  obtain ⟨t, e0, ht⟩ : ∃ t : Nat, (cs.drop 0).take 1 = [.int .u32 (t : Int)] ∧ t < 4294967296 := by
    obtain ⟨a, hv, _, hw⟩ := DataW.trod_int Try.underlying23 h0
    have ha := nat_of_wf (k := .u32) rfl hw
    exact ⟨a.toNat, by rw [hv, Int.toNat_of_nonneg ha.1], by have := ha.2; simp [top] at this; omega⟩
  obtain ⟨xs, m, _, _, hl1, hx1, he1⟩ := DataW.trod_array Try.underlying39 h1
  obtain ⟨hs, k1, e1, _⟩ := list_chunks (fun b : Bool => [Value.bool b]) 1 (fun _ => True) 8 _ (by rw [hl1, hC1]) (fun i hi => by
    have hy := he1 i hi
    rw [hCb, List.getElem?_eq_getElem (by omega)] at hy
    obtain ⟨b, hb, _⟩ := DataW.trod_bool Try.underlying4 hy
    exact ⟨b, hb, trivial⟩)
  obtain ⟨ys, m2, _, _, hl2, hx2, he2⟩ := DataW.trod_array Try.underlying40 h2
  obtain ⟨bs, k2, e2, hq⟩ := list_chunks Blk.cells 2 (fun b => b.Ok w w.heap.size) 8 _ (by rw [hl2, hC2]) (fun i hi => by
    have hy := he2 i hi
    rw [hCk, List.getElem?_eq_getElem (by omega)] at hy
    exact block_trod _ _ _ hy)
  refine ⟨⟨t, hs, bs⟩, ?_, k1, k2, ht, hq⟩
  have e3 : cs = (cs.drop 0).take 1 ++ ((cs.drop 1).take 8 ++ (cs.drop 9).take 16) := by
    have a1 : (cs.drop 9).take 16 = cs.drop 9 := List.take_of_length_le (by rw [List.length_drop]; omega)
    have a2 : (cs.drop 1).take 8 ++ cs.drop 9 = cs.drop 1 := by
      have := List.take_append_drop 8 (cs.drop 1)
      rwa [List.drop_drop] at this
    rw [a1, a2, List.drop_zero, List.take_append_drop]
  rw [e3, e0, e1, e2, flat_one]
  rfl
theorem open_stage {v : Value} {d : DataW H} {ps : List MemPlace} (hval : Value.okWide Try.prog w r b0 42 v) (hd : DataW.Trod enc Try.prog w base spare held 42 v d ps) :
    ∃ s : Stv, v = .agg s.C.toArray ∧ s.Ok w w.heap.size := by
  obtain ⟨cs, rfl, _⟩ := okWide_struct Try.underlying42 hval
  obtain ⟨fuel, hf⟩ := hd
  obtain ⟨s, hs, hok⟩ := stage_trod _ _ _ hf
  exact ⟨s, by rw [← hs]; rfl, hok⟩
end
end Go.Proofs.Ytopkncbpkccfbaa
namespace Go.Proofs.Ytopkncbpkccfbaa
open Go.RowKit
set_option linter.unusedVariables false
set_option linter.unusedSimpArgs false
attribute [local go_sem] Later.cell Later.frozen setCell_twice
set_option maxRecDepth 100000 in
set_option maxHeartbeats 4000000 in
theorem tells_long (ow t : Nat) (n : Int) (x : Blk) (v : List Nat) (Av : Option Addr) (cv : Nat) (s o : Stv) (l : List Blk) (Al : Option Addr) (cl ch : Nat) (w : World)
    (how : ow < 65536) (ht : t < 4294967296) (hch : ch < 4294967296) (hx : x.Ok w w.heap.size) (sv : Sq u16w w w.heap.size Av v) (hv : ∀ x ∈ v, x < 65536) (hcv : v.length ≤ cv) (hcv2 : cv ≤ 9223372036854775807)
    (hs : s.Ok w w.heap.size) (ho : o.Ok w w.heap.size) (hl : Blks w w.heap.size Al l) (hcl : l.length ≤ cl) (hcl2 : cl ≤ 9223372036854775807)
    (h1 : x.ws.length ≤ 100) (h2 : v.length ≤ 40) (h3 : light s.bs = true) (h4 : light o.bs = true) (h5 : light l = true) :
    Calls Try.prog 8 #[.int .u16 (ow : Int), .int .u32 (t : Int), .int .i64 n, .agg #[.int .i64 x.a, .slice x.A x.ws.length x.c], .slice Av v.length cv, .agg s.C.toArray, .agg o.C.toArray, .slice Al l.length cl, .int .u32 (ch : Int)] w fun e w' => e = .returned (.bool true) ∧ Below w.heap.size w w' := by
  have hR12 : RowAt (((w.alloc (.cells #[.int .i64 x.a, .slice x.A x.ws.length x.c] 26)).alloc (.cells s.C.toArray 42)).alloc (.cells o.C.toArray 42)) w.heap.size 26 [.int .i64 x.a, .slice x.A x.ws.length x.c] := by
    have := ((RowAt.new w 26 [.int .i64 x.a, .slice x.A x.ws.length x.c]).alloc (.cells s.C.toArray 42)).alloc (.cells o.C.toArray 42)
    simpa using this
  have hR14 : RowAt (((w.alloc (.cells #[.int .i64 x.a, .slice x.A x.ws.length x.c] 26)).alloc (.cells s.C.toArray 42)).alloc (.cells o.C.toArray 42)) (w.heap.size + 1) 42 s.C := by
    have := (RowAt.new (w.alloc (.cells #[.int .i64 x.a, .slice x.A x.ws.length x.c] 26)) 42 s.C).alloc (.cells o.C.toArray 42)
    simpa using this
  have hR15 : RowAt (((w.alloc (.cells #[.int .i64 x.a, .slice x.A x.ws.length x.c] 26)).alloc (.cells s.C.toArray 42)).alloc (.cells o.C.toArray 42)) (w.heap.size + 1 + 1) 42 o.C := by
    have := RowAt.new ((w.alloc (.cells #[.int .i64 x.a, .slice x.A x.ws.length x.c] 26)).alloc (.cells s.C.toArray 42)) 42 o.C
    simpa using this
  have R12 := Lib.hid hR12
  have R14 := Lib.hid hR14
  have R15 := Lib.hid hR15
  have HC := Lib.hid (Stv.C_length hs.lh hs.lb)
  have HD := Lib.hid (Stv.C_length ho.lh ho.lb)
  have hls : ∀ b ∈ s.bs, b.ws.length ≤ 100 := (of_decide_eq_true h3).1
  have hlo : ∀ b ∈ o.bs, b.ws.length ≤ 100 := (of_decide_eq_true h4).1
  have hll : l.length ≤ 40 := (of_decide_eq_true h5).2
  have hIs : s.Is w 0 s.tx s.S := ⟨hs, rfl, rfl, fun _ _ _ _ => Nat.zero_le _, fun b hb => by have := hls b hb; omega⟩
  have hIo : o.Is w 0 o.tx o.S := ⟨ho, rfl, rfl, fun _ _ _ _ => Nat.zero_le _, fun b hb => by have := hlo b hb; omega⟩
  obtain ⟨⟨L, E⟩, hW⟩ : ∃ r, Stg.words ow t n x.a x.ws = r := ⟨_, rfl⟩
  obtain ⟨mL, hmL⟩ : ∃ m, L.length = m := ⟨_, rfl⟩
  obtain ⟨⟨ro, rt, rn, ra, rws, re⟩, hR⟩ : ∃ r, Stg.read v = r := ⟨_, rfl⟩
  have hL20 := words_len hW
  obtain ⟨⟨tp, Sp, Ep⟩, hP⟩ : ∃ r, putE s.tx s.S n x = r := ⟨_, rfl⟩
  have kcp := Lib.hid (fun W (hB : Below w.heap.size w W) => rcopy_S W (hIs.to hB))
  have kp : Hid (∀ W, Below w.heap.size w W → Calls Try.prog 15 #[.agg s.C.toArray, .int .i64 n, .agg #[.int .i64 x.a, .slice x.A x.ws.length x.c]] W (PutV W tp Sp Ep)) := Lib.hid (fun W hB => by
    have := put_all n x W (hIs.to hB) (hx.to hB)
    rw [hP] at this
    exact this)
  have krp : Hid (∀ W, Below w.heap.size w W → Calls Try.prog 29 #[.agg s.C.toArray, .int .i64 n, .agg #[.int .i64 x.a, .slice x.A x.ws.length x.c]] W (PutV W tp Sp Ep)) := Lib.hid (fun W hB => by
    have := rput_all n x W (hIs.to hB) (hx.to hB)
    rw [hP] at this
    exact this)
  have hra : ra < 65536 := by have := Stg.read_a hv; rw [hR] at this; exact this
  have hru : ∀ z ∈ rws, z < 65536 := by have := (Stg.read_bounds hv).2.2; rw [hR] at this; exact this
  have ky := Lib.hid (fun (W : World) (B c : Nat) (A : Option Addr) (h : W.ownsRow B 22 1 (.slice A rws.length c) rws.length (rws.map u16w)) => (Blk.Ok.of_own (a := (ra : Int)) rfl h hru (by omega) (by omega)))
  have kf := Lib.hid (fun W (hW : Below w.heap.size w W) => few_any s true W (hs.to hW) h3)
  have kg := Lib.hid (fun W (hW : Below w.heap.size w W) => few_any o true W (ho.to hW) h4)
  have kl := Lib.hid (fun W (hW : Below w.heap.size w W) => light_any Al l cl l.length true W rfl ((hl.below hW).more hW.size) hcl hcl2 h5)
  have kw := Lib.hid (fun W (hB : Below w.heap.size w W) => words_lit ow t n x.a x.ws x.A x.c x.ws.length L mL E W how ht rfl ((hx.sq.below hB).more hB.size) hx.lo hx.hi (Nat.le_trans hx.ln hx.cap) hx.nl hW hmL)
  have krw := Lib.hid (fun W (hB : Below w.heap.size w W) => rwords_lit ow t n x.a x.ws x.A x.c x.ws.length L mL E W how ht rfl ((hx.sq.below hB).more hB.size) hx.u hx.lo hx.hi (Nat.le_trans hx.ln hx.cap) hW hmL)
  have kr := Lib.hid (fun W (hB : Below w.heap.size w W) => read_lit v Av cv v.length _ ro rt rn ra re rws.length W rfl ((sv.below hB).more hB.size) hv hcv hcv2 hR rfl rfl rfl rfl rfl rfl)
  have krr := Lib.hid (fun W (hB : Below w.heap.size w W) => rread_lit v Av cv v.length _ ro rt rn ra re rws.length W rfl ((sv.below hB).more hB.size) hv hcv hcv2 hR rfl rfl rfl rfl rfl rfl)
  have kcw := Lib.hid (fun W (A B : Option Addr) (ca cb : Nat) (hA : Sq u16w W W.heap.size A L) (hB : Sq u16w W W.heap.size B L) => lowWords_any A B L L ca cb mL mL true W hmL hmL hA hB (by omega) (by simp))
  have g1 : decide ((100 : Int) < (x.ws.length : Int)) = false := decide_eq_false (by omega)
  have g2 : decide ((40 : Int) < (v.length : Int)) = false := decide_eq_false (by omega)
  have HX := Lib.hid hx
  have IS := Lib.hid hIs
  have HIO := Lib.hid hIo
  have HL := Lib.hid hl
  have HML := Lib.hid hmL
  clear hR12 hR14 hR15 hls hlo hIs hIo hW hR h3 h4 h5 hs ho sv hv h1 h2 hx hl hL20 hmL hra hru hP
  go_enter Try.func8, Try.ntmps8
  go_wp2_with (refine wpList_load_var rfl 42 (.tmp 14) rfl (w.heap.size + 1) rfl s.C _ 25 R14.out Try.underlying42 rfl size_25 HC.out ?_)
  go_wp2_with fail
  refine (kf.out _ (by repeat (first | exact Below.refl _ _ | refine bel_later _ ?_ | refine bel_alloc ?_ _ | refine bel_set ?_ (by first | omega | (simp; done) | (simp; omega)) _ | refine Below.drew ?_ | refine bel_drewN ?_ _ | assumption))).mono ?_
  rintro e_x1 w_x1 ⟨rfl, hb_x1⟩
  obtain ⟨x1, rfl⟩ := later_is hb_x1
  clear hb_x1
  have hz_x1 := x1.bel.size
  try simp at hz_x1
  replace R12 := Lib.hid (R12.out.to x1.bel)
  replace R14 := Lib.hid (R14.out.to x1.bel)
  replace R15 := Lib.hid (R15.out.to x1.bel)
  go_wp2_with (refine wpList_load_var rfl 42 (.tmp 15) rfl (w.heap.size + 1 + 1) rfl o.C _ 25 R15.out Try.underlying42 rfl size_25 HD.out ?_)
  go_wp2_with fail
  refine (kg.out _ (by repeat (first | exact Below.refl _ _ | refine bel_later _ ?_ | refine bel_alloc ?_ _ | refine bel_set ?_ (by first | omega | (simp; done) | (simp; omega)) _ | refine Below.drew ?_ | refine bel_drewN ?_ _ | assumption))).mono ?_
  rintro e_x2 w_x2 ⟨rfl, hb_x2⟩
  obtain ⟨x2, rfl⟩ := later_is hb_x2
  clear hb_x2
  have hz_x2 := x2.bel.size
  try simp at hz_x2
  replace R12 := Lib.hid (R12.out.to x2.bel)
  replace R14 := Lib.hid (R14.out.to x2.bel)
  replace R15 := Lib.hid (R15.out.to x2.bel)
  go_wp2_with fail
  refine (kl.out _ (by repeat (first | exact Below.refl _ _ | refine bel_later _ ?_ | refine bel_alloc ?_ _ | refine bel_set ?_ (by first | omega | (simp; done) | (simp; omega)) _ | refine Below.drew ?_ | refine bel_drewN ?_ _ | assumption))).mono ?_
  rintro e_x3 w_x3 ⟨rfl, hb_x3⟩
  obtain ⟨x3, rfl⟩ := later_is hb_x3
  clear hb_x3
  have hz_x3 := x3.bel.size
  try simp at hz_x3
  have hb3 : Below w.heap.size w x3.val := (by repeat (first | exact Below.refl _ _ | refine bel_later _ ?_ | refine bel_alloc ?_ _ | refine bel_set ?_ (by first | omega | (simp; done) | (simp; omega)) _ | refine Below.drew ?_ | refine bel_drewN ?_ _ | assumption))
  have k12 := R12.out.to x3.bel
  have k14 := R14.out.to x3.bel
  have k15 := R15.out.to x3.bel
  obtain ⟨w3, hw3⟩ : ∃ w3, x3.val = w3 := ⟨_, rfl⟩
  rw [hw3] at k12 k14 k15 hb3 ⊢
  replace R12 := Lib.hid k12
  replace R14 := Lib.hid k14
  replace R15 := Lib.hid k15
  have hzz : w.heap.size + 1 + 1 < w3.heap.size := k15.lt
  clear k12 k14 k15 hz_x1 hz_x2 hz_x3 hw3 kf kg kl
  have d0 := R12.out.cells 0
  have d1 := R12.out.cells 1
  go_wp2_with fail
  with_reducible refine (kw.out _ hb3).mono ?_
  rintro e_ w4 ⟨A4, c4, rfl, o4, hb4⟩
  replace R12 := Lib.hid (R12.out.to hb4)
  replace R14 := Lib.hid (R14.out.to hb4)
  replace R15 := Lib.hid (R15.out.to hb4)
  have hbw4 : Below w.heap.size w w4 := hb3.trans (hb4.mono hb3.size)
  have hz4 := hb4.size
  have f0 := R12.out.cells 0
  have f1 := R12.out.cells 1
  have O4 := Lib.hid o4
  clear hb4 o4 d0 d1 kw
  go_wp2_with fail
  with_reducible refine (krw.out _ hbw4).mono ?_
  rintro e_ w5 ⟨A5, c5, rfl, o5, hb5⟩
  replace R12 := Lib.hid (R12.out.to hb5)
  replace R14 := Lib.hid (R14.out.to hb5)
  replace R15 := Lib.hid (R15.out.to hb5)
  replace O4 := Lib.hid (own_below O4.out hb5)
  have O5 := Lib.hid o5
  have hbw5 : Below w.heap.size w w5 := hbw4.trans (hb5.mono hbw4.size)
  have hz5 := hb5.size
  clear hb5 o5 f0 f1 krw
  go_wp2_with fail
  with_reducible refine (kr.out _ hbw5).mono ?_
  rintro e_ w6 ⟨A6, c6, rfl, o6, hb6⟩
  replace R12 := Lib.hid (R12.out.to hb6)
  replace R14 := Lib.hid (R14.out.to hb6)
  replace R15 := Lib.hid (R15.out.to hb6)
  replace O4 := Lib.hid (own_below O4.out hb6)
  replace O5 := Lib.hid (own_below O5.out hb6)
  have O6 := Lib.hid o6
  have hbw6 : Below w.heap.size w w6 := hbw5.trans (hb6.mono hbw5.size)
  have hz6 := hb6.size
  clear hb6 o6 kr
  go_wp2_with fail
  with_reducible refine (krr.out _ (bel_alloc hbw6 _)).mono ?_
  rintro e_ w7 ⟨A7, c7, rfl, o7, hb7⟩
  have r26 := (RowAt.new w6 26 [.int .i64 (ra : Int), .slice A6 rws.length c6]).to hb7
  have hb7' : Below w6.heap.size w6 w7 := (bel_alloc (Below.refl _ _) _).trans (hb7.mono (by simp))
  replace R12 := Lib.hid (R12.out.to hb7')
  replace R14 := Lib.hid (R14.out.to hb7')
  replace R15 := Lib.hid (R15.out.to hb7')
  replace O4 := Lib.hid (own_below O4.out hb7')
  replace O5 := Lib.hid (own_below O5.out hb7')
  replace O6 := Lib.hid (own_below O6.out hb7')
  have O7 := Lib.hid o7
  have R26 := Lib.hid r26
  have hbw7 : Below w.heap.size w w7 := hbw6.trans (hb7'.mono hbw6.size)
  have hz7 := hb7'.size
  have hz7a : w6.heap.size < w7.heap.size := r26.lt
  clear hb7 o7 r26 krr hb7'
  go_wp2_with fail
  with_reducible refine (kcw.out _ _ _ _ _ (Sq.of_own (O4.out.alloc _)) (Sq.of_own (O5.out.alloc _))).mono ?_
  rintro e_ w8 ⟨rfl, hb8⟩
  have r31 := (RowAt.new w7 26 [.int .i64 (ra : Int), .slice A7 rws.length c7]).to hb8
  have hb8' : Below w7.heap.size w7 w8 := (bel_alloc (Below.refl _ _) _).trans (hb8.mono (by simp))
  replace R12 := Lib.hid (R12.out.to hb8')
  replace R14 := Lib.hid (R14.out.to hb8')
  replace R15 := Lib.hid (R15.out.to hb8')
  replace R26 := Lib.hid (R26.out.to hb8')
  have y6 := (ky.out _ _ _ _ (own_below O6.out hb8'))
  have y7 := (ky.out _ _ _ _ (own_below O7.out hb8'))
  have hbw8 : Below w.heap.size w w8 := hbw7.trans (hb8'.mono hbw7.size)
  have hz8 := hb8'.size
  have hz8a : w7.heap.size < w8.heap.size := r31.lt
  have d260 := R26.out.cells 0
  have d261 := R26.out.cells 1
  have d310 := r31.cells 0
  have d311 := r31.cells 1
  have ks := Lib.hid (rsameB_any (some ⟨w8.heap.size, 0, none⟩) (some ⟨w8.heap.size + 1, 0, none⟩) [⟨ra, rws, A6, c6⟩] [⟨ra, rws, A7, c7⟩] 1 1 1 1 true ((w8.alloc (.cells #[.int .i64 (ra : Int), .slice A6 rws.length c6] 26)).alloc (.cells #[.int .i64 (ra : Int), .slice A7 rws.length c7] 26)) rfl rfl ((Blks.one (t := 26) rfl y6).to (bel_alloc (Below.refl _ _) _)) (Blks.one (t := 26) (by simp) (y7.to (bel_alloc (Below.refl _ _) _))) (by simp) (by omega) (by omega) (by simp))
  clear hb8 hb8' r31 y6 y7 O4 O5 O6 O7 kcw ky
  go_wp2_with fail
  with_reducible refine (ks.out).mono ?_
  rintro e_ w9 ⟨rfl, hb9⟩
  have hb9' : Below w8.heap.size w8 w9 := (bel_alloc (bel_alloc (Below.refl _ _) _) _).trans (hb9.mono (by simp; omega))
  replace R12 := Lib.hid (R12.out.to hb9')
  replace R14 := Lib.hid (R14.out.to hb9')
  replace R15 := Lib.hid (R15.out.to hb9')
  have hbw9 : Below w.heap.size w w9 := hbw8.trans (hb9'.mono hbw8.size)
  have hz9 := hb9'.size
  clear hb9 hb9' ks d260 d261 d310 d311 R26
  go_wp2_with (refine wpList_load_var rfl 42 (.tmp 14) rfl (w.heap.size + 1) rfl s.C _ 25 R14.out Try.underlying42 rfl size_25 HC.out ?_)
  with_reducible refine (kcp.out _ hbw9).mono ?_
  rintro e_ w10 ⟨s10, rfl, i10, hb10⟩
  replace R12 := Lib.hid (R12.out.to hb10)
  replace R14 := Lib.hid (R14.out.to hb10)
  replace R15 := Lib.hid (R15.out.to hb10)
  have hbw10 : Below w.heap.size w w10 := hbw9.trans (hb10.mono hbw9.size)
  have hz10 := hb10.size
  have HC10 := Lib.hid i10.C25
  have I10 := Lib.hid i10
  clear hb10 i10 kcp
  have hq10 : w.heap.size + 1 + 1 < w10.heap.size := R15.out.lt
  go_wp2_with (first | (refine wpList_store_var rfl 42 (.tmp 33) (.tmp 134) rfl w10.heap.size Stv.zero.C s10.C 25 rfl rfl (heap_alloc_new w10 _) size_25 rfl HC10.out (Stv.C_one s10) ?_; intro w11 r33 k11; have R33 := Lib.hid r33; have K11 := Lib.hid k11; have R14' := Lib.hid ((R14.out.alloc (.cells z25 42)).only k11 (by omega)); have d0 := ((R12.out.alloc (.cells z25 42)).only k11 (by omega)).cells 0; have d1 := ((R12.out.alloc (.cells z25 42)).only k11 (by omega)).cells 1; clear r33 k11) | (refine wpList_load_var rfl 42 (.tmp 14) rfl (w.heap.size + 1) rfl s.C _ 25 R14'.out Try.underlying42 rfl size_25 HC.out ?_))
  have hb11 : Below w10.heap.size w10 w11 := K11.out.to (bel_alloc (Below.refl _ _) (.cells z25 42)) (Nat.le_refl _)
  replace R12 := Lib.hid (R12.out.to hb11)
  replace R15 := Lib.hid (R15.out.to hb11)
  replace I10 := Lib.hid (I10.out.to hb11)
  replace R14 := R14'
  have hbw11 : Below w.heap.size w w11 := hbw10.trans (hb11.mono hbw10.size)
  have hz11 := hb11.size
  clear K11 hb11
  with_reducible refine (kp.out _ hbw11).mono ?_
  rintro e_ w12 ⟨s12, rfl, i12, hb12⟩
  replace R12 := Lib.hid (R12.out.to hb12)
  replace R14 := Lib.hid (R14.out.to hb12)
  replace R15 := Lib.hid (R15.out.to hb12)
  replace R33 := Lib.hid (R33.out.to hb12)
  replace I10 := Lib.hid (I10.out.to hb12)
  have hbw12 : Below w.heap.size w w12 := hbw11.trans (hb12.mono hbw11.size)
  have hz12 := hb12.size
  have HC12 := Lib.hid i12.C25
  have I12 := Lib.hid i12
  have hq12 : w.heap.size + 1 + 1 < w12.heap.size := R15.out.lt
  clear R14' d0 d1 hb12 i12 kp
  go_wp2_with (first | (refine wpList_store_var rfl 42 (.tmp 34) (.tmp 140) rfl w12.heap.size Stv.zero.C s12.C 25 rfl rfl (heap_alloc_new w12 _) size_25 rfl HC12.out (Stv.C_one s12) ?_; intro w13 r34 k13; have R34 := Lib.hid r34; have hb13 : Below w12.heap.size w12 w13 := k13.to (bel_alloc (Below.refl _ _) (.cells z25 42)) (Nat.le_refl _); have R14' := Lib.hid (R14.out.to hb13); have d0 := (R12.out.to hb13).cells 0; have d1 := (R12.out.to hb13).cells 1; clear r34 k13) | (refine wpList_load_var rfl 42 (.tmp 14) rfl (w.heap.size + 1) rfl s.C _ 25 R14'.out Try.underlying42 rfl size_25 HC.out ?_))
  replace R12 := Lib.hid (R12.out.to hb13)
  replace R15 := Lib.hid (R15.out.to hb13)
  replace R33 := Lib.hid (R33.out.to hb13)
  replace I10 := Lib.hid (I10.out.to hb13)
  replace I12 := Lib.hid (I12.out.to hb13)
  replace R14 := R14'
  have hbw13 : Below w.heap.size w w13 := hbw12.trans (hb13.mono hbw12.size)
  have hz13 := hb13.size
  with_reducible refine (krp.out _ hbw13).mono ?_
  rintro e_ w14 ⟨s14, rfl, i14, hb14⟩
  replace R12 := Lib.hid (R12.out.to hb14)
  replace R14 := Lib.hid (R14.out.to hb14)
  replace R15 := Lib.hid (R15.out.to hb14)
  replace R33 := Lib.hid (R33.out.to hb14)
  replace R34 := Lib.hid (R34.out.to hb14)
  replace I10 := Lib.hid (I10.out.to hb14)
  replace I12 := Lib.hid (I12.out.to hb14)
  have hbw14 : Below w.heap.size w w14 := hbw13.trans (hb14.mono hbw13.size)
  have hz14 := hb14.size
  have HC14 := Lib.hid i14.C25
  have I14 := Lib.hid i14
  have hq14 : w.heap.size + 1 + 1 < w14.heap.size := R15.out.lt
  clear R14' d0 d1 hb14 i14 krp hb13
  go_wp2_with (first | (refine wpList_store_var rfl 42 (.tmp 36) (.tmp 147) rfl w14.heap.size Stv.zero.C s14.C 25 rfl rfl (heap_alloc_new w14 _) size_25 rfl HC14.out (Stv.C_one s14) ?_; intro w15 r36 k15; have R36 := Lib.hid r36; have hb15 : Below w14.heap.size w14 w15 := k15.to (bel_alloc (Below.refl _ _) (.cells z25 42)) (Nat.le_refl _); clear r36 k15))
  replace R14 := Lib.hid (R14.out.to hb15)
  replace R15 := Lib.hid (R15.out.to hb15)
  replace R33 := Lib.hid (R33.out.to hb15)
  replace R34 := Lib.hid (R34.out.to hb15)
  replace I10 := Lib.hid (I10.out.to hb15)
  replace I12 := Lib.hid (I12.out.to hb15)
  replace I14 := Lib.hid (I14.out.to hb15)
  have hbw15 : Below w.heap.size w w15 := hbw14.trans (hb15.mono hbw14.size)
  have hz15 := hb15.size
  clear hb15 R12
  obtain ⟨q, hq⟩ : ∃ q, decide (s.tx = o.tx ∧ s.S = o.S) = q := ⟨_, rfl⟩
  have m1 := Lib.hid (fun W (hB : Below w15.heap.size w15 W) => rsameS_S true W (I12.out.to hB) (I14.out.to hB) (by simp))
  have m2 := Lib.hid (fun W (hB : Below w15.heap.size w15 W) => rsameS_S true W (IS.out.to (hbw15.trans (hB.mono hbw15.size))) (I10.out.to hB) (by simp))
  have m3 := Lib.hid (fun W (hB : Below w15.heap.size w15 W) => same_S q W (IS.out.to (hbw15.trans (hB.mono hbw15.size))) (HIO.out.to (hbw15.trans (hB.mono hbw15.size))) (fun p hp => Nat.le_trans (IS.out.lens p hp) (by omega)) hq)
  have m4 := Lib.hid (fun W (hB : Below w15.heap.size w15 W) => rsameS_S q W (IS.out.to (hbw15.trans (hB.mono hbw15.size))) (HIO.out.to (hbw15.trans (hB.mono hbw15.size))) hq)
  clear hq
  have r14 := R14.out
  have r15 := R15.out
  have r33 := R33.out
  have r34 := R34.out
  have r36 := R36.out
  go_wp2
  refine wp_region_held_drew (S := (fun w' => RowAt w' (w.heap.size + 1) 42 s.C ∧ RowAt w' (w.heap.size + 1 + 1) 42 o.C ∧ RowAt w' w10.heap.size 42 s10.C ∧ RowAt w' w12.heap.size 42 s12.C ∧ RowAt w' w14.heap.size 42 s14.C)) (by kernel_rfl) ?_ (fun hHeld => ?_)
  · exact ⟨r14, r15, r33, r34, r36⟩
  refine takeD (i := 0) (oi := _) (v := ?vv47) (d := some 149) rfl (by kernel_rfl) (by kernel_rfl) (by kernel_rfl) (by kernel_rfl) (fun _ _ _ h => h) (Or.inl ⟨by kernel_rfl, ?_⟩) (by assumption) ?_
  rotate_left 1
  · intro W_ hSw; (try dsimp only at hSw); go_simp; (first | done | with_reducible rfl)
  try simp only [Act.put, List.setIfInBounds_toArray, List.set_cons_zero, List.set_cons_succ]
  refine takeD (i := 1) (oi := _) (v := ?vv48) (d := some 150) rfl (by kernel_rfl) (by kernel_rfl) (by kernel_rfl) (by kernel_rfl) (fun _ _ _ h => h) (Or.inl ⟨by kernel_rfl, ?_⟩) (by assumption) ?_
  rotate_left 1
  · intro W_ hSw; (try dsimp only at hSw); go_simp; (first | done | with_reducible rfl)
  try simp only [Act.put, List.setIfInBounds_toArray, List.set_cons_zero, List.set_cons_succ]
  refine takeD (i := 2) (oi := _) (v := ?vv49) (d := some 151) rfl (by kernel_rfl) (by kernel_rfl) (by kernel_rfl) (by kernel_rfl) (fun _ _ _ h => h) (Or.inl ⟨by kernel_rfl, ?_⟩) (by assumption) ?_
  rotate_left 1
  · intro W_ hSw; (try dsimp only at hSw); go_simp; (first | done | with_reducible rfl)
  try simp only [Act.put, List.setIfInBounds_toArray, List.set_cons_zero, List.set_cons_succ]
  refine takeD (i := 3) (oi := _) (v := ?vv50) (d := some 152) rfl (by kernel_rfl) (by kernel_rfl) (by kernel_rfl) (by kernel_rfl) (fun _ _ _ h => h) (Or.inl ⟨by kernel_rfl, ?_⟩) (by assumption) ?_
  rotate_left 1
  · intro W_ hSw; (try dsimp only at hSw); go_simp; (first | done | with_reducible rfl)
  try simp only [Act.put, List.setIfInBounds_toArray, List.set_cons_zero, List.set_cons_succ]
  refine takeD (i := 4) (oi := _) (v := _) (d := some 153) rfl (by kernel_rfl) (by kernel_rfl) (by kernel_rfl) (by kernel_rfl) (fun _ _ _ h => h) (yieldsIf_load_mid (by kernel_rfl) 42 (.tmp 34) (by kernel_rfl) w12.heap.size 0 (by kernel_rfl) s12.C _ (fun W h => h.2.2.2.1.all) Try.underlying42 rfl (by rw [size_25, HC12.out])) (by assumption) ?_
  try simp only [Act.put, List.setIfInBounds_toArray, List.set_cons_zero, List.set_cons_succ]
  refine takeD (i := 5) (oi := _) (v := _) (d := some 154) rfl (by kernel_rfl) (by kernel_rfl) (by kernel_rfl) (by kernel_rfl) (fun _ _ _ h => h) (yieldsIf_load_mid (by kernel_rfl) 42 (.tmp 36) (by kernel_rfl) w14.heap.size 0 (by kernel_rfl) s14.C _ (fun W h => h.2.2.2.2.all) Try.underlying42 rfl (by rw [size_25, HC14.out])) (by assumption) ?_
  try simp only [Act.put, List.setIfInBounds_toArray, List.set_cons_zero, List.set_cons_succ]
  refine wpAnyH_ready (rs := [6]) (by kernel_rfl) (by simp) ?_
  refine AllReadyH.cons (o := _) rfl (fun K hK => ?_) AllReadyH.nil
  go_simp
  (go_at_call 30; (with_reducible refine (m1.out _ (Below.refl _ _).drew).mono ?_); rintro e_ v1 ⟨rfl, hv1⟩; have hu1 : Below w15.heap.size w15 v1 := (Below.refl _ _).drew.trans (hv1.mono (Nat.le_refl _)))
  go_wp2_with fail
  refine hK.out _ _ ?_ (fun hHeld => ?_)
  · exact ⟨r14.to hu1, r15.to hu1, r33.to hu1, r34.to hu1, r36.to hu1⟩
  clear hK K
  try simp only [Act.put, List.setIfInBounds_toArray, List.set_cons_zero, List.set_cons_succ]
  refine takeD (i := 7) (oi := _) (v := ?vv51) (d := some 156) rfl (by kernel_rfl) (by kernel_rfl) (by kernel_rfl) (by kernel_rfl) (fun _ _ _ h => h) (Or.inl ⟨by kernel_rfl, ?_⟩) (by assumption) ?_
  rotate_left 1
  · intro W_ hSw; (try dsimp only at hSw); go_simp; (first | done | with_reducible rfl)
  try simp only [Act.put, List.setIfInBounds_toArray, List.set_cons_zero, List.set_cons_succ]
  refine takeD (i := 8) (oi := _) (v := ?vv52) (d := some 157) rfl (by kernel_rfl) (by kernel_rfl) (by kernel_rfl) (by kernel_rfl) (fun _ _ _ h => h) (Or.inl ⟨by kernel_rfl, ?_⟩) (by assumption) ?_
  rotate_left 1
  · intro W_ hSw; (try dsimp only at hSw); go_simp; (first | done | with_reducible rfl)
  try simp only [Act.put, List.setIfInBounds_toArray, List.set_cons_zero, List.set_cons_succ]
  refine takeD (i := 9) (oi := _) (v := ?vv53) (d := some 158) rfl (by kernel_rfl) (by kernel_rfl) (by kernel_rfl) (by kernel_rfl) (fun _ _ _ h => h) (Or.inl ⟨by kernel_rfl, ?_⟩) (by assumption) ?_
  rotate_left 1
  · intro W_ hSw; (try dsimp only at hSw); go_simp; (first | done | with_reducible rfl)
  try simp only [Act.put, List.setIfInBounds_toArray, List.set_cons_zero, List.set_cons_succ]
  refine takeD (i := 10) (oi := _) (v := _) (d := some 159) rfl (by kernel_rfl) (by kernel_rfl) (by kernel_rfl) (by kernel_rfl) (fun _ _ _ h => h) (yieldsIf_load_mid (by kernel_rfl) 42 (.tmp 14) (by kernel_rfl) (w.heap.size + 1) 0 (by kernel_rfl) s.C _ (fun W h => h.1.all) Try.underlying42 rfl (by rw [size_25, HC.out])) (by assumption) ?_
  try simp only [Act.put, List.setIfInBounds_toArray, List.set_cons_zero, List.set_cons_succ]
  refine takeD (i := 11) (oi := _) (v := _) (d := some 160) rfl (by kernel_rfl) (by kernel_rfl) (by kernel_rfl) (by kernel_rfl) (fun _ _ _ h => h) (yieldsIf_load_mid (by kernel_rfl) 42 (.tmp 33) (by kernel_rfl) w10.heap.size 0 (by kernel_rfl) s10.C _ (fun W h => h.2.2.1.all) Try.underlying42 rfl (by rw [size_25, HC10.out])) (by assumption) ?_
  try simp only [Act.put, List.setIfInBounds_toArray, List.set_cons_zero, List.set_cons_succ]
  refine wpAnyH_ready (rs := [12]) (by kernel_rfl) (by simp) ?_
  refine AllReadyH.cons (o := _) rfl (fun K hK => ?_) AllReadyH.nil
  go_simp
  (go_at_call 30; (with_reducible refine (m2.out _ hu1).mono ?_); rintro e_ v2 ⟨rfl, hv2⟩; have hu2 : Below w15.heap.size w15 v2 := hu1.trans (hv2.mono hu1.size))
  go_wp2_with fail
  refine hK.out _ _ ?_ (fun hHeld => ?_)
  · exact ⟨r14.to hu2, r15.to hu2, r33.to hu2, r34.to hu2, r36.to hu2⟩
  clear hK K
  try simp only [Act.put, List.setIfInBounds_toArray, List.set_cons_zero, List.set_cons_succ]
  refine takeD (i := 13) (oi := _) (v := ?vv54) (d := some 162) rfl (by kernel_rfl) (by kernel_rfl) (by kernel_rfl) (by kernel_rfl) (fun _ _ _ h => h) (Or.inl ⟨by kernel_rfl, ?_⟩) (by assumption) ?_
  rotate_left 1
  · intro W_ hSw; (try dsimp only at hSw); go_simp; (first | done | with_reducible rfl)
  try simp only [Act.put, List.setIfInBounds_toArray, List.set_cons_zero, List.set_cons_succ]
  refine takeD (i := 14) (oi := _) (v := ?vv55) (d := some 163) rfl (by kernel_rfl) (by kernel_rfl) (by kernel_rfl) (by kernel_rfl) (fun _ _ _ h => h) (Or.inl ⟨by kernel_rfl, ?_⟩) (by assumption) ?_
  rotate_left 1
  · intro W_ hSw; (try dsimp only at hSw); go_simp; (first | done | with_reducible rfl)
  try simp only [Act.put, List.setIfInBounds_toArray, List.set_cons_zero, List.set_cons_succ]
  refine takeD (i := 15) (oi := _) (v := ?vv56) (d := some 164) rfl (by kernel_rfl) (by kernel_rfl) (by kernel_rfl) (by kernel_rfl) (fun _ _ _ h => h) (Or.inl ⟨by kernel_rfl, ?_⟩) (by assumption) ?_
  rotate_left 1
  · intro W_ hSw; (try dsimp only at hSw); go_simp; (first | done | with_reducible rfl)
  try simp only [Act.put, List.setIfInBounds_toArray, List.set_cons_zero, List.set_cons_succ]
  refine takeD (i := 16) (oi := _) (v := _) (d := some 165) rfl (by kernel_rfl) (by kernel_rfl) (by kernel_rfl) (by kernel_rfl) (fun _ _ _ h => h) (yieldsIf_load_mid (by kernel_rfl) 42 (.tmp 14) (by kernel_rfl) (w.heap.size + 1) 0 (by kernel_rfl) s.C _ (fun W h => h.1.all) Try.underlying42 rfl (by rw [size_25, HC.out])) (by assumption) ?_
  try simp only [Act.put, List.setIfInBounds_toArray, List.set_cons_zero, List.set_cons_succ]
  refine takeD (i := 17) (oi := _) (v := _) (d := some 166) rfl (by kernel_rfl) (by kernel_rfl) (by kernel_rfl) (by kernel_rfl) (fun _ _ _ h => h) (yieldsIf_load_mid (by kernel_rfl) 42 (.tmp 15) (by kernel_rfl) (w.heap.size + 1 + 1) 0 (by kernel_rfl) o.C _ (fun W h => h.2.1.all) Try.underlying42 rfl (by rw [size_25, HD.out])) (by assumption) ?_
  try simp only [Act.put, List.setIfInBounds_toArray, List.set_cons_zero, List.set_cons_succ]
  refine takeD (i := 19) (oi := _) (v := _) (d := some 168) rfl (by kernel_rfl) (by kernel_rfl) (by kernel_rfl) (by kernel_rfl) (fun _ _ _ h => h) (yieldsIf_load_mid (by kernel_rfl) 42 (.tmp 14) (by kernel_rfl) (w.heap.size + 1) 0 (by kernel_rfl) s.C _ (fun W h => h.1.all) Try.underlying42 rfl (by rw [size_25, HC.out])) (by assumption) ?_
  try simp only [Act.put, List.setIfInBounds_toArray, List.set_cons_zero, List.set_cons_succ]
  refine takeD (i := 20) (oi := _) (v := _) (d := some 169) rfl (by kernel_rfl) (by kernel_rfl) (by kernel_rfl) (by kernel_rfl) (fun _ _ _ h => h) (yieldsIf_load_mid (by kernel_rfl) 42 (.tmp 15) (by kernel_rfl) (w.heap.size + 1 + 1) 0 (by kernel_rfl) o.C _ (fun W h => h.2.1.all) Try.underlying42 rfl (by rw [size_25, HD.out])) (by assumption) ?_
  try simp only [Act.put, List.setIfInBounds_toArray, List.set_cons_zero, List.set_cons_succ]
  refine wpAnyH_ready (rs := [18]) (by kernel_rfl) (by simp) ?_
  refine AllReadyH.cons (o := _) rfl (fun K hK => ?_) AllReadyH.nil
  go_simp
  (go_at_call 20; (with_reducible refine (m3.out _ hu2).mono ?_); rintro e_ v3 ⟨rfl, hv3⟩; have hu3 : Below w15.heap.size w15 v3 := hu2.trans (hv3.mono hu2.size))
  go_wp2_with fail
  refine hK.out _ _ ?_ (fun hHeld => ?_)
  · exact ⟨r14.to hu3, r15.to hu3, r33.to hu3, r34.to hu3, r36.to hu3⟩
  clear hK K
  try simp only [Act.put, List.setIfInBounds_toArray, List.set_cons_zero, List.set_cons_succ]
  refine wpAnyH_ready (rs := [21]) (by kernel_rfl) (by simp) ?_
  refine AllReadyH.cons (o := _) rfl (fun K hK => ?_) AllReadyH.nil
  go_simp
  (go_at_call 30; (with_reducible refine (m4.out _ hu3).mono ?_); rintro e_ v4 ⟨rfl, hv4⟩; have hu4 : Below w15.heap.size w15 v4 := hu3.trans (hv4.mono hu3.size))
  go_wp2_with fail
  refine hK.out _ _ ?_ (fun hHeld => ?_)
  · exact ⟨r14.to hu4, r15.to hu4, r33.to hu4, r34.to hu4, r36.to hu4⟩
  clear hK K
  try simp only [Act.put, List.setIfInBounds_toArray, List.set_cons_zero, List.set_cons_succ]
  refine takeD (i := 22) (oi := _) (v := ?vv57) (d := some 171) rfl (by kernel_rfl) (by kernel_rfl) (by kernel_rfl) (by kernel_rfl) (fun _ _ _ h => h) (Or.inl ⟨by kernel_rfl, ?_⟩) (by assumption) ?_
  rotate_left 1
  · intro W_ hSw; (try dsimp only at hSw); go_simp; (first | done | with_reducible rfl)
  try simp only [Act.put, List.setIfInBounds_toArray, List.set_cons_zero, List.set_cons_succ]
  refine takeD (i := 23) (oi := _) (v := ?vv58) (d := some 172) rfl (by kernel_rfl) (by kernel_rfl) (by kernel_rfl) (by kernel_rfl) (fun _ _ _ h => h) (Or.inl ⟨by kernel_rfl, ?_⟩) (by assumption) ?_
  rotate_left 1
  · intro W_ hSw; (try dsimp only at hSw); go_simp; (first | done | with_reducible rfl)
  try simp only [Act.put, List.setIfInBounds_toArray, List.set_cons_zero, List.set_cons_succ]
  refine wpAnyH_done (by kernel_rfl) ?_ _
  have hbu := hbw15.trans (hu4.mono hbw15.size)
  have R14u := Lib.hid (r14.to hu4)
  clear hv1 hv2 hv3 hv4 hu1 hu2 hu3 hu4 r14 r15 r33 r34 r36 m1 m2 m3 m4 R15 R33 R34 R36 I10 I12 I14 HC10 HC12 HC14
  obtain ⟨Lb, hLb⟩ : ∃ Lb, ssBack ow s.tx s.S n = Lb := ⟨_, rfl⟩
  have hLb20 : Lb.length = 20 := by rw [← hLb]; exact ssBack_length _ _ _ _
  obtain ⟨z, hz⟩ : ∃ z, chk (prs l) = z := ⟨_, rfl⟩
  have hTL : (ssThere s.S).length ≤ 8 := by have := ssThere_length s.S; rw [IS.out.len] at this; exact this
  have m1 := Lib.hid (fun W (hB : Below v4.heap.size v4 W) => back_S ow n Lb W (IS.out.to (hbu.trans (hB.mono hbu.size))) how hLb)
  have m2 := Lib.hid (fun W (hB : Below v4.heap.size v4 W) => rback_S ow n Lb W (IS.out.to (hbu.trans (hB.mono hbu.size))) how hLb)
  have m3 := Lib.hid (fun (W : World) (A B : Option Addr) (ca cb : Nat) (hA : Sq u16w W W.heap.size A Lb) (hB : Sq u16w W W.heap.size B Lb) => lowWords_any A B Lb Lb ca cb 20 20 true W hLb20 hLb20 hA hB (by omega) (by simp))
  have m4 := Lib.hid (fun W (hB : Below v4.heap.size v4 W) => blocks_S W (IS.out.to (hbu.trans (hB.mono hbu.size))))
  have m5 := Lib.hid (fun W (hB : Below v4.heap.size v4 W) => rblocks_S W (IS.out.to (hbu.trans (hB.mono hbu.size))))
  have m6 := Lib.hid (fun W (A A' : Option Addr) (l l' : List Blk) (c c' : Nat) (hp : prs l = ssThere s.S) (hp' : prs l' = ssThere s.S) (h : Blks W W.heap.size A l) (h' : Blks W W.heap.size A' l') (hc : l.length ≤ c) (hc' : l'.length ≤ c') (hcc : c ≤ 9223372036854775807) =>
    rsameB_any A A' l l' c c' _ _ true W rfl rfl h h' (by omega) hc hc' (by rw [hp, hp']; simp))
  have m7 : Hid (∀ W, Below v4.heap.size v4 W → Calls Try.prog 21 #[.slice Al l.length cl] W fun e w' => e = .returned (.int .u32 (z : Int)) ∧ Below W.heap.size W w') := Lib.hid (fun W hB => by
    have := stSum_any Al l cl l.length _ W (HL.out.to (hbu.trans (hB.mono hbu.size))) rfl (by omega) hcl hcl2 rfl
    rw [hz] at this
    exact this)
  have m8 : Hid (∀ W, Below v4.heap.size v4 W → Calls Try.prog 33 #[.slice Al l.length cl] W fun e w' => e = .returned (.int .u32 (z : Int)) ∧ Below W.heap.size W w') := Lib.hid (fun W hB => by
    have := rsum_any Al l cl l.length _ W (HL.out.to (hbu.trans (hB.mono hbu.size))) rfl (by omega) hcl hcl2 rfl
    rw [hz] at this
    exact this)
  clear hLb hz
  have r14 := R14u.out
  go_wp2
  refine wp_region_held_drew (S := (fun w' => RowAt w' (w.heap.size + 1) 42 s.C)) (by kernel_rfl) ?_ (fun hHeld => ?_)
  · exact r14
  refine takeD (i := 0) (oi := _) (v := _) (d := some 173) rfl (by kernel_rfl) (by kernel_rfl) (by kernel_rfl) (by kernel_rfl) (fun _ _ _ h => h) (yieldsIf_load_mid (by kernel_rfl) 42 (.tmp 14) (by kernel_rfl) (w.heap.size + 1) 0 (by kernel_rfl) s.C _ (fun W h => h.all) Try.underlying42 rfl (by rw [size_25, HC.out])) (by assumption) ?_
  try simp only [Act.put, List.setIfInBounds_toArray, List.set_cons_zero, List.set_cons_succ]
  refine takeD (i := 1) (oi := _) (v := ?vv59) (d := some 174) rfl (by kernel_rfl) (by kernel_rfl) (by kernel_rfl) (by kernel_rfl) (fun _ _ _ h => h) (Or.inl ⟨by kernel_rfl, ?_⟩) (by assumption) ?_
  rotate_left 1
  · intro W_ hSw; (try dsimp only at hSw); go_simp; (first | done | with_reducible rfl)
  try simp only [Act.put, List.setIfInBounds_toArray, List.set_cons_zero, List.set_cons_succ]
  refine takeD (i := 2) (oi := _) (v := ?vv60) (d := some 175) rfl (by kernel_rfl) (by kernel_rfl) (by kernel_rfl) (by kernel_rfl) (fun _ _ _ h => h) (Or.inl ⟨by kernel_rfl, ?_⟩) (by assumption) ?_
  rotate_left 1
  · intro W_ hSw; (try dsimp only at hSw); go_simp; (first | done | with_reducible rfl)
  try simp only [Act.put, List.setIfInBounds_toArray, List.set_cons_zero, List.set_cons_succ]
  refine takeD (i := 4) (oi := _) (v := _) (d := some 177) rfl (by kernel_rfl) (by kernel_rfl) (by kernel_rfl) (by kernel_rfl) (fun _ _ _ h => h) (yieldsIf_load_mid (by kernel_rfl) 42 (.tmp 14) (by kernel_rfl) (w.heap.size + 1) 0 (by kernel_rfl) s.C _ (fun W h => h.all) Try.underlying42 rfl (by rw [size_25, HC.out])) (by assumption) ?_
  try simp only [Act.put, List.setIfInBounds_toArray, List.set_cons_zero, List.set_cons_succ]
  refine takeD (i := 5) (oi := _) (v := ?vv61) (d := some 178) rfl (by kernel_rfl) (by kernel_rfl) (by kernel_rfl) (by kernel_rfl) (fun _ _ _ h => h) (Or.inl ⟨by kernel_rfl, ?_⟩) (by assumption) ?_
  rotate_left 1
  · intro W_ hSw; (try dsimp only at hSw); go_simp; (first | done | with_reducible rfl)
  try simp only [Act.put, List.setIfInBounds_toArray, List.set_cons_zero, List.set_cons_succ]
  refine takeD (i := 6) (oi := _) (v := ?vv62) (d := some 179) rfl (by kernel_rfl) (by kernel_rfl) (by kernel_rfl) (by kernel_rfl) (fun _ _ _ h => h) (Or.inl ⟨by kernel_rfl, ?_⟩) (by assumption) ?_
  rotate_left 1
  · intro W_ hSw; (try dsimp only at hSw); go_simp; (first | done | with_reducible rfl)
  try simp only [Act.put, List.setIfInBounds_toArray, List.set_cons_zero, List.set_cons_succ]
  refine wpAnyH_ready (rs := [3]) (by kernel_rfl) (by simp) ?_
  refine AllReadyH.cons (o := _) rfl (fun K hK => ?_) AllReadyH.nil
  go_simp
  (go_at_call 17; (with_reducible refine (m1.out _ (Below.refl _ _).drew).mono ?_); rintro e_ u1 ⟨B1, d1, rfl, p1, hv1⟩; have hu1 : Below v4.heap.size v4 u1 := (Below.refl _ _).drew.trans (hv1.mono (Nat.le_refl _)))
  go_wp2_with fail
  refine hK.out _ _ ?_ (fun hHeld => ?_)
  · exact r14.to hu1
  clear hK K
  try simp only [Act.put, List.setIfInBounds_toArray, List.set_cons_zero, List.set_cons_succ]
  refine wpAnyH_ready (rs := [7]) (by kernel_rfl) (by simp) ?_
  refine AllReadyH.cons (o := _) rfl (fun K hK => ?_) AllReadyH.nil
  go_simp
  (go_at_call 31; (with_reducible refine (m2.out _ hu1).mono ?_); rintro e_ u2 ⟨B2, d2, rfl, p2, hv2⟩; have p1b := own_below p1 hv2; have hu2 : Below v4.heap.size v4 u2 := hu1.trans (hv2.mono hu1.size))
  go_wp2_with fail
  refine hK.out _ _ ?_ (fun hHeld => ?_)
  · exact r14.to hu2
  clear hK K
  try simp only [Act.put, List.setIfInBounds_toArray, List.set_cons_zero, List.set_cons_succ]
  refine wpAnyH_ready (rs := [8]) (by kernel_rfl) (by simp) ?_
  refine AllReadyH.cons (o := _) rfl (fun K hK => ?_) AllReadyH.nil
  go_simp
  (go_at_call 12; (with_reducible refine (m3.out _ _ _ _ _ (Sq.of_own p1b) (Sq.of_own p2)).mono ?_); rintro e_ u3 ⟨rfl, hv3⟩; have hu3 : Below v4.heap.size v4 u3 := hu2.trans (hv3.mono hu2.size))
  go_wp2_with fail
  refine hK.out _ _ ?_ (fun hHeld => ?_)
  · exact r14.to hu3
  clear hK K
  try simp only [Act.put, List.setIfInBounds_toArray, List.set_cons_zero, List.set_cons_succ]
  refine takeD (i := 9) (oi := _) (v := ?vv63) (d := some 182) rfl (by kernel_rfl) (by kernel_rfl) (by kernel_rfl) (by kernel_rfl) (fun _ _ _ h => h) (Or.inl ⟨by kernel_rfl, ?_⟩) (by assumption) ?_
  rotate_left 1
  · intro W_ hSw; (try dsimp only at hSw); go_simp; (first | done | with_reducible rfl)
  try simp only [Act.put, List.setIfInBounds_toArray, List.set_cons_zero, List.set_cons_succ]
  refine takeD (i := 10) (oi := _) (v := ?vv64) (d := some 183) rfl (by kernel_rfl) (by kernel_rfl) (by kernel_rfl) (by kernel_rfl) (fun _ _ _ h => h) (Or.inl ⟨by kernel_rfl, ?_⟩) (by assumption) ?_
  rotate_left 1
  · intro W_ hSw; (try dsimp only at hSw); go_simp; (first | done | with_reducible rfl)
  try simp only [Act.put, List.setIfInBounds_toArray, List.set_cons_zero, List.set_cons_succ]
  refine takeD (i := 11) (oi := _) (v := _) (d := some 184) rfl (by kernel_rfl) (by kernel_rfl) (by kernel_rfl) (by kernel_rfl) (fun _ _ _ h => h) (yieldsIf_load_mid (by kernel_rfl) 42 (.tmp 14) (by kernel_rfl) (w.heap.size + 1) 0 (by kernel_rfl) s.C _ (fun W h => h.all) Try.underlying42 rfl (by rw [size_25, HC.out])) (by assumption) ?_
  try simp only [Act.put, List.setIfInBounds_toArray, List.set_cons_zero, List.set_cons_succ]
  refine takeD (i := 13) (oi := _) (v := _) (d := some 186) rfl (by kernel_rfl) (by kernel_rfl) (by kernel_rfl) (by kernel_rfl) (fun _ _ _ h => h) (yieldsIf_load_mid (by kernel_rfl) 42 (.tmp 14) (by kernel_rfl) (w.heap.size + 1) 0 (by kernel_rfl) s.C _ (fun W h => h.all) Try.underlying42 rfl (by rw [size_25, HC.out])) (by assumption) ?_
  try simp only [Act.put, List.setIfInBounds_toArray, List.set_cons_zero, List.set_cons_succ]
  refine wpAnyH_ready (rs := [12]) (by kernel_rfl) (by simp) ?_
  refine AllReadyH.cons (o := _) rfl (fun K hK => ?_) AllReadyH.nil
  go_simp
  (go_at_call 16; (with_reducible refine (m4.out _ hu3).mono ?_); rintro e_ u4 ⟨B4, d4, bl4, rfl, hp4, hB4, hl4, hc4, hn4, hv4⟩; have hu4 : Below v4.heap.size v4 u4 := hu3.trans (hv4.mono hu3.size))
  go_wp2_with fail
  refine hK.out _ _ ?_ (fun hHeld => ?_)
  · exact r14.to hu4
  clear hK K
  try simp only [Act.put, List.setIfInBounds_toArray, List.set_cons_zero, List.set_cons_succ]
  refine wpAnyH_ready (rs := [14]) (by kernel_rfl) (by simp) ?_
  refine AllReadyH.cons (o := _) rfl (fun K hK => ?_) AllReadyH.nil
  go_simp
  (go_at_call 32; (with_reducible refine (m5.out _ hu4).mono ?_); rintro e_ u5 ⟨B5, d5, bl5, rfl, hp5, hB5, hl5, hc5, hn5, hv5⟩; have hB4b := hB4.to hv5; have hu5 : Below v4.heap.size v4 u5 := hu4.trans (hv5.mono hu4.size))
  go_wp2_with fail
  refine hK.out _ _ ?_ (fun hHeld => ?_)
  · exact r14.to hu5
  clear hK K
  try simp only [Act.put, List.setIfInBounds_toArray, List.set_cons_zero, List.set_cons_succ]
  refine wpAnyH_ready (rs := [15]) (by kernel_rfl) (by simp) ?_
  refine AllReadyH.cons (o := _) rfl (fun K hK => ?_) AllReadyH.nil
  go_simp
  (go_at_call 27; (with_reducible refine (m6.out _ _ _ _ _ _ _ hp4 hp5 hB4b hB5 hl4 hl5 hc4).mono ?_); rintro e_ u6 ⟨rfl, hv6⟩; have hu6 : Below v4.heap.size v4 u6 := hu5.trans (hv6.mono hu5.size))
  go_wp2_with fail
  refine hK.out _ _ ?_ (fun hHeld => ?_)
  · exact r14.to hu6
  clear hK K
  try simp only [Act.put, List.setIfInBounds_toArray, List.set_cons_zero, List.set_cons_succ]
  refine takeD (i := 16) (oi := _) (v := ?vv65) (d := some 189) rfl (by kernel_rfl) (by kernel_rfl) (by kernel_rfl) (by kernel_rfl) (fun _ _ _ h => h) (Or.inl ⟨by kernel_rfl, ?_⟩) (by assumption) ?_
  rotate_left 1
  · intro W_ hSw; (try dsimp only at hSw); go_simp; (first | done | with_reducible rfl)
  try simp only [Act.put, List.setIfInBounds_toArray, List.set_cons_zero, List.set_cons_succ]
  refine takeD (i := 17) (oi := _) (v := ?vv66) (d := some 190) rfl (by kernel_rfl) (by kernel_rfl) (by kernel_rfl) (by kernel_rfl) (fun _ _ _ h => h) (Or.inl ⟨by kernel_rfl, ?_⟩) (by assumption) ?_
  rotate_left 1
  · intro W_ hSw; (try dsimp only at hSw); go_simp; (first | done | with_reducible rfl)
  try simp only [Act.put, List.setIfInBounds_toArray, List.set_cons_zero, List.set_cons_succ]
  refine takeD (i := 18) (oi := _) (v := ?vv67) (d := some 191) rfl (by kernel_rfl) (by kernel_rfl) (by kernel_rfl) (by kernel_rfl) (fun _ _ _ h => h) (Or.inl ⟨by kernel_rfl, ?_⟩) (by assumption) ?_
  rotate_left 1
  · intro W_ hSw; (try dsimp only at hSw); go_simp; (first | done | with_reducible rfl)
  try simp only [Act.put, List.setIfInBounds_toArray, List.set_cons_zero, List.set_cons_succ]
  refine takeD (i := 19) (oi := _) (v := ?vv68) (d := some 192) rfl (by kernel_rfl) (by kernel_rfl) (by kernel_rfl) (by kernel_rfl) (fun _ _ _ h => h) (Or.inl ⟨by kernel_rfl, ?_⟩) (by assumption) ?_
  rotate_left 1
  · intro W_ hSw; (try dsimp only at hSw); go_simp; (first | done | with_reducible rfl)
  try simp only [Act.put, List.setIfInBounds_toArray, List.set_cons_zero, List.set_cons_succ]
  refine takeD (i := 21) (oi := _) (v := ?vv69) (d := some 194) rfl (by kernel_rfl) (by kernel_rfl) (by kernel_rfl) (by kernel_rfl) (fun _ _ _ h => h) (Or.inl ⟨by kernel_rfl, ?_⟩) (by assumption) ?_
  rotate_left 1
  · intro W_ hSw; (try dsimp only at hSw); go_simp; (first | done | with_reducible rfl)
  try simp only [Act.put, List.setIfInBounds_toArray, List.set_cons_zero, List.set_cons_succ]
  refine wpAnyH_ready (rs := [20]) (by kernel_rfl) (by simp) ?_
  refine AllReadyH.cons (o := _) rfl (fun K hK => ?_) AllReadyH.nil
  go_simp
  (go_at_call 21; (with_reducible refine (m7.out _ hu6).mono ?_); rintro e_ u7 ⟨rfl, hv7⟩; have hu7 : Below v4.heap.size v4 u7 := hu6.trans (hv7.mono hu6.size))
  go_wp2_with fail
  refine hK.out _ _ ?_ (fun hHeld => ?_)
  · exact r14.to hu7
  clear hK K
  try simp only [Act.put, List.setIfInBounds_toArray, List.set_cons_zero, List.set_cons_succ]
  refine wpAnyH_ready (rs := [22]) (by kernel_rfl) (by simp) ?_
  refine AllReadyH.cons (o := _) rfl (fun K hK => ?_) AllReadyH.nil
  go_simp
  (go_at_call 33; (with_reducible refine (m8.out _ hu7).mono ?_); rintro e_ u8 ⟨rfl, hv8⟩; have hu8 : Below v4.heap.size v4 u8 := hu7.trans (hv8.mono hu7.size))
  go_wp2_with fail
  refine hK.out _ _ ?_ (fun hHeld => ?_)
  · exact r14.to hu8
  clear hK K
  try simp only [Act.put, List.setIfInBounds_toArray, List.set_cons_zero, List.set_cons_succ]
  refine takeD (i := 23) (oi := _) (v := ?vv70) (d := some 196) rfl (by kernel_rfl) (by kernel_rfl) (by kernel_rfl) (by kernel_rfl) (fun _ _ _ h => h) (Or.inl ⟨by kernel_rfl, ?_⟩) (by assumption) ?_
  rotate_left 1
  · intro W_ hSw; (try dsimp only at hSw); go_simp; (first | done | with_reducible rfl)
  try simp only [Act.put, List.setIfInBounds_toArray, List.set_cons_zero, List.set_cons_succ]
  refine takeD (i := 24) (oi := _) (v := ?vv71) (d := some 197) rfl (by kernel_rfl) (by kernel_rfl) (by kernel_rfl) (by kernel_rfl) (fun _ _ _ h => h) (Or.inl ⟨by kernel_rfl, ?_⟩) (by assumption) ?_
  rotate_left 1
  · intro W_ hSw; (try dsimp only at hSw); go_simp; (first | done | with_reducible rfl)
  try simp only [Act.put, List.setIfInBounds_toArray, List.set_cons_zero, List.set_cons_succ]
  refine wpAnyH_done (by kernel_rfl) ?_ _
  have hbx := hbu.trans (hu8.mono hbu.size)
  have R14x := Lib.hid (r14.to hu8)
  clear hv1 hv2 hv3 hv4 hv5 hv6 hv7 hv8 hu1 hu2 hu3 hu4 hu5 hu6 hu7 hu8 r14 m1 m2 m3 m4 m5 m6 m7 m8 p1 p1b p2 hB4 hB4b hB5 hp4 hp5 hl4 hl5 hc4 hc5 hn4 hn5 R14u
  obtain ⟨z2, hz2⟩ : ∃ z2, chk (ssThere s.S) = z2 := ⟨_, rfl⟩
  obtain ⟨q1, hq1⟩ : ∃ r : Bool, r = true ↔ SSW s.S n ch := by classical exact ⟨decide (SSW s.S n ch), by simp⟩
  obtain ⟨q2, hq2⟩ : ∃ r : Bool, r = true ↔ SSW s.S n z2 := by classical exact ⟨decide (SSW s.S n z2), by simp⟩
  have m5 := Lib.hid (fun W (hB : Below u8.heap.size u8 W) => rblocks_S W (IS.out.to (hbx.trans (hB.mono hbx.size))))
  have m8 : Hid (∀ W (A : Option Addr) (bl : List Blk) (c : Nat), prs bl = ssThere s.S → Blks W W.heap.size A bl → bl.length ≤ c → c ≤ 9223372036854775807 → Calls Try.prog 33 #[.slice A bl.length c] W fun e w' => e = .returned (.int .u32 (z2 : Int)) ∧ Below W.heap.size W w') := Lib.hid (fun W A bl c hp hB h1 h2 => by
    have hl8 : bl.length ≤ 8 := by have := congrArg List.length hp; simp at this; omega
    have := rsum_any A bl c bl.length _ W hB rfl (by omega) h1 h2 hp
    rw [hz2] at this
    exact this)
  have n1 := Lib.hid (fun W (hB : Below w.heap.size w W) => whole_S n ch q1 W (IS.out.to hB) hq1)
  have n2 := Lib.hid (fun W (hB : Below w.heap.size w W) => rwhole_S n ch q1 W (IS.out.to hB) hq1)
  have n3 := Lib.hid (fun W (hB : Below w.heap.size w W) => whole_S n z2 q2 W (IS.out.to hB) hq2)
  have n4 := Lib.hid (fun W (hB : Below w.heap.size w W) => rwhole_S n z2 q2 W (IS.out.to hB) hq2)
  clear hz2 hq1 hq2
  go_wp2_with (refine wpList_load_var rfl 42 (.tmp 14) rfl (w.heap.size + 1) rfl s.C _ 25 R14x.out Try.underlying42 rfl size_25 HC.out ?_)
  with_reducible refine (m5.out _ (Below.refl _ _)).mono ?_
  rintro e_ y1 ⟨B1, d1, bl1, rfl, hp1, hB1, hl1, hc1, hn1, hv1⟩
  have hbl8 : bl1.length ≤ 8 := by have := congrArg List.length hp1; simp at this; omega
  replace R14x := Lib.hid (R14x.out.to hv1)
  have hby1 := hbx.trans (hv1.mono hbx.size)
  have M8 := Lib.hid (m8.out y1 B1 bl1 d1 hp1 hB1 hl1 hc1)
  clear m5 m8 hp1 hB1 hv1
  go_wp2_with fail
  with_reducible refine (M8.out).mono ?_
  rintro e_ y2 ⟨rfl, hv2⟩
  replace R14x := Lib.hid (R14x.out.to hv2)
  have hby2 := hby1.trans (hv2.mono hby1.size)
  have r14 := R14x.out
  have hz1y := hbx.size
  clear M8 hv2
  go_wp2
  refine wp_region_held_drew (S := (fun w' => RowAt w' (w.heap.size + 1) 42 s.C)) (by kernel_rfl) ?_ (fun hHeld => ?_)
  · exact r14
  refine takeD (i := 0) (oi := _) (v := _) (d := some 201) rfl (by kernel_rfl) (by kernel_rfl) (by kernel_rfl) (by kernel_rfl) (fun _ _ _ h => h) (yieldsIf_load_mid (by kernel_rfl) 42 (.tmp 14) (by kernel_rfl) (w.heap.size + 1) 0 (by kernel_rfl) s.C _ (fun W h => h.all) Try.underlying42 rfl (by rw [size_25, HC.out])) (by assumption) ?_
  try simp only [Act.put, List.setIfInBounds_toArray, List.set_cons_zero, List.set_cons_succ]
  refine takeD (i := 1) (oi := _) (v := ?vv72) (d := some 202) rfl (by kernel_rfl) (by kernel_rfl) (by kernel_rfl) (by kernel_rfl) (fun _ _ _ h => h) (Or.inl ⟨by kernel_rfl, ?_⟩) (by assumption) ?_
  rotate_left 1
  · intro W_ hSw; (try dsimp only at hSw); go_simp; (first | done | with_reducible rfl)
  try simp only [Act.put, List.setIfInBounds_toArray, List.set_cons_zero, List.set_cons_succ]
  refine takeD (i := 2) (oi := _) (v := ?vv73) (d := some 203) rfl (by kernel_rfl) (by kernel_rfl) (by kernel_rfl) (by kernel_rfl) (fun _ _ _ h => h) (Or.inl ⟨by kernel_rfl, ?_⟩) (by assumption) ?_
  rotate_left 1
  · intro W_ hSw; (try dsimp only at hSw); go_simp; (first | done | with_reducible rfl)
  try simp only [Act.put, List.setIfInBounds_toArray, List.set_cons_zero, List.set_cons_succ]
  refine takeD (i := 4) (oi := _) (v := _) (d := some 205) rfl (by kernel_rfl) (by kernel_rfl) (by kernel_rfl) (by kernel_rfl) (fun _ _ _ h => h) (yieldsIf_load_mid (by kernel_rfl) 42 (.tmp 14) (by kernel_rfl) (w.heap.size + 1) 0 (by kernel_rfl) s.C _ (fun W h => h.all) Try.underlying42 rfl (by rw [size_25, HC.out])) (by assumption) ?_
  try simp only [Act.put, List.setIfInBounds_toArray, List.set_cons_zero, List.set_cons_succ]
  refine takeD (i := 5) (oi := _) (v := ?vv74) (d := some 206) rfl (by kernel_rfl) (by kernel_rfl) (by kernel_rfl) (by kernel_rfl) (fun _ _ _ h => h) (Or.inl ⟨by kernel_rfl, ?_⟩) (by assumption) ?_
  rotate_left 1
  · intro W_ hSw; (try dsimp only at hSw); go_simp; (first | done | with_reducible rfl)
  try simp only [Act.put, List.setIfInBounds_toArray, List.set_cons_zero, List.set_cons_succ]
  refine takeD (i := 6) (oi := _) (v := ?vv75) (d := some 207) rfl (by kernel_rfl) (by kernel_rfl) (by kernel_rfl) (by kernel_rfl) (fun _ _ _ h => h) (Or.inl ⟨by kernel_rfl, ?_⟩) (by assumption) ?_
  rotate_left 1
  · intro W_ hSw; (try dsimp only at hSw); go_simp; (first | done | with_reducible rfl)
  try simp only [Act.put, List.setIfInBounds_toArray, List.set_cons_zero, List.set_cons_succ]
  refine wpAnyH_ready (rs := [3]) (by kernel_rfl) (by simp) ?_
  refine AllReadyH.cons (o := _) rfl (fun K hK => ?_) AllReadyH.nil
  go_simp
  (go_at_call 22; (with_reducible refine (n1.out _ hby2.drew).mono ?_); rintro e_ a1 ⟨rfl, hv1⟩; have hu1 : Below y2.heap.size y2 a1 := (Below.refl _ _).drew.trans (hv1.mono (Nat.le_refl _)); have hu1w := hby2.trans (hu1.mono hby2.size))
  go_wp2_with fail
  refine hK.out _ _ ?_ (fun hHeld => ?_)
  · exact r14.to hu1
  clear hK K
  try simp only [Act.put, List.setIfInBounds_toArray, List.set_cons_zero, List.set_cons_succ]
  refine wpAnyH_ready (rs := [7]) (by kernel_rfl) (by simp) ?_
  refine AllReadyH.cons (o := _) rfl (fun K hK => ?_) AllReadyH.nil
  go_simp
  (go_at_call 34; (with_reducible refine (n2.out _ hu1w).mono ?_); rintro e_ a2 ⟨rfl, hv2⟩; have hu2 : Below y2.heap.size y2 a2 := hu1.trans (hv2.mono hu1.size); have hu2w := hby2.trans (hu2.mono hby2.size))
  go_wp2_with fail
  refine hK.out _ _ ?_ (fun hHeld => ?_)
  · exact r14.to hu2
  clear hK K
  try simp only [Act.put, List.setIfInBounds_toArray, List.set_cons_zero, List.set_cons_succ]
  refine takeD (i := 8) (oi := _) (v := ?vv76) (d := some 209) rfl (by kernel_rfl) (by kernel_rfl) (by kernel_rfl) (by kernel_rfl) (fun _ _ _ h => h) (Or.inl ⟨by kernel_rfl, ?_⟩) (by assumption) ?_
  rotate_left 1
  · intro W_ hSw; (try dsimp only at hSw); go_simp; (first | done | with_reducible rfl)
  try simp only [Act.put, List.setIfInBounds_toArray, List.set_cons_zero, List.set_cons_succ]
  refine takeD (i := 9) (oi := _) (v := ?vv77) (d := some 210) rfl (by kernel_rfl) (by kernel_rfl) (by kernel_rfl) (by kernel_rfl) (fun _ _ _ h => h) (Or.inl ⟨by kernel_rfl, ?_⟩) (by assumption) ?_
  rotate_left 1
  · intro W_ hSw; (try dsimp only at hSw); go_simp; (first | done | with_reducible rfl)
  try simp only [Act.put, List.setIfInBounds_toArray, List.set_cons_zero, List.set_cons_succ]
  refine takeD (i := 10) (oi := _) (v := _) (d := some 211) rfl (by kernel_rfl) (by kernel_rfl) (by kernel_rfl) (by kernel_rfl) (fun _ _ _ h => h) (yieldsIf_load_mid (by kernel_rfl) 42 (.tmp 14) (by kernel_rfl) (w.heap.size + 1) 0 (by kernel_rfl) s.C _ (fun W h => h.all) Try.underlying42 rfl (by rw [size_25, HC.out])) (by assumption) ?_
  try simp only [Act.put, List.setIfInBounds_toArray, List.set_cons_zero, List.set_cons_succ]
  refine takeD (i := 11) (oi := _) (v := ?vv78) (d := some 212) rfl (by kernel_rfl) (by kernel_rfl) (by kernel_rfl) (by kernel_rfl) (fun _ _ _ h => h) (Or.inl ⟨by kernel_rfl, ?_⟩) (by assumption) ?_
  rotate_left 1
  · intro W_ hSw; (try dsimp only at hSw); go_simp; (first | done | with_reducible rfl)
  try simp only [Act.put, List.setIfInBounds_toArray, List.set_cons_zero, List.set_cons_succ]
  refine takeD (i := 12) (oi := _) (v := ?vv79) (d := some 213) rfl (by kernel_rfl) (by kernel_rfl) (by kernel_rfl) (by kernel_rfl) (fun _ _ _ h => h) (Or.inl ⟨by kernel_rfl, ?_⟩) (by assumption) ?_
  rotate_left 1
  · intro W_ hSw; (try dsimp only at hSw); go_simp; (first | done | with_reducible rfl)
  try simp only [Act.put, List.setIfInBounds_toArray, List.set_cons_zero, List.set_cons_succ]
  refine takeD (i := 14) (oi := _) (v := _) (d := some 215) rfl (by kernel_rfl) (by kernel_rfl) (by kernel_rfl) (by kernel_rfl) (fun _ _ _ h => h) (yieldsIf_load_mid (by kernel_rfl) 42 (.tmp 14) (by kernel_rfl) (w.heap.size + 1) 0 (by kernel_rfl) s.C _ (fun W h => h.all) Try.underlying42 rfl (by rw [size_25, HC.out])) (by assumption) ?_
  try simp only [Act.put, List.setIfInBounds_toArray, List.set_cons_zero, List.set_cons_succ]
  refine takeD (i := 15) (oi := _) (v := ?vv80) (d := some 216) rfl (by kernel_rfl) (by kernel_rfl) (by kernel_rfl) (by kernel_rfl) (fun _ _ _ h => h) (Or.inl ⟨by kernel_rfl, ?_⟩) (by assumption) ?_
  rotate_left 1
  · intro W_ hSw; (try dsimp only at hSw); go_simp; (first | done | with_reducible rfl)
  try simp only [Act.put, List.setIfInBounds_toArray, List.set_cons_zero, List.set_cons_succ]
  refine takeD (i := 16) (oi := _) (v := ?vv81) (d := some 217) rfl (by kernel_rfl) (by kernel_rfl) (by kernel_rfl) (by kernel_rfl) (fun _ _ _ h => h) (Or.inl ⟨by kernel_rfl, ?_⟩) (by assumption) ?_
  rotate_left 1
  · intro W_ hSw; (try dsimp only at hSw); go_simp; (first | done | with_reducible rfl)
  try simp only [Act.put, List.setIfInBounds_toArray, List.set_cons_zero, List.set_cons_succ]
  refine wpAnyH_ready (rs := [13]) (by kernel_rfl) (by simp) ?_
  refine AllReadyH.cons (o := _) rfl (fun K hK => ?_) AllReadyH.nil
  go_simp
  (go_at_call 22; (with_reducible refine (n3.out _ hu2w).mono ?_); rintro e_ a3 ⟨rfl, hv3⟩; have hu3 : Below y2.heap.size y2 a3 := hu2.trans (hv3.mono hu2.size); have hu3w := hby2.trans (hu3.mono hby2.size))
  go_wp2_with fail
  refine hK.out _ _ ?_ (fun hHeld => ?_)
  · exact r14.to hu3
  clear hK K
  try simp only [Act.put, List.setIfInBounds_toArray, List.set_cons_zero, List.set_cons_succ]
  refine wpAnyH_ready (rs := [17]) (by kernel_rfl) (by simp) ?_
  refine AllReadyH.cons (o := _) rfl (fun K hK => ?_) AllReadyH.nil
  go_simp
  (go_at_call 34; (with_reducible refine (n4.out _ hu3w).mono ?_); rintro e_ a4 ⟨rfl, hv4⟩; have hu4 : Below y2.heap.size y2 a4 := hu3.trans (hv4.mono hu3.size); have hu4w := hby2.trans (hu4.mono hby2.size))
  go_wp2_with fail
  refine hK.out _ _ ?_ (fun hHeld => ?_)
  · exact r14.to hu4
  clear hK K
  try simp only [Act.put, List.setIfInBounds_toArray, List.set_cons_zero, List.set_cons_succ]
  refine takeD (i := 18) (oi := _) (v := ?vv82) (d := some 219) rfl (by kernel_rfl) (by kernel_rfl) (by kernel_rfl) (by kernel_rfl) (fun _ _ _ h => h) (Or.inl ⟨by kernel_rfl, ?_⟩) (by assumption) ?_
  rotate_left 1
  · intro W_ hSw; (try dsimp only at hSw); go_simp; (first | done | with_reducible rfl)
  try simp only [Act.put, List.setIfInBounds_toArray, List.set_cons_zero, List.set_cons_succ]
  refine takeD (i := 19) (oi := _) (v := ?vv83) (d := some 220) rfl (by kernel_rfl) (by kernel_rfl) (by kernel_rfl) (by kernel_rfl) (fun _ _ _ h => h) (Or.inl ⟨by kernel_rfl, ?_⟩) (by assumption) ?_
  rotate_left 1
  · intro W_ hSw; (try dsimp only at hSw); go_simp; (first | done | with_reducible rfl)
  try simp only [Act.put, List.setIfInBounds_toArray, List.set_cons_zero, List.set_cons_succ]
  refine takeD (i := 20) (oi := _) (v := ?vv84) (d := some 221) rfl (by kernel_rfl) (by kernel_rfl) (by kernel_rfl) (by kernel_rfl) (fun _ _ _ h => h) (Or.inl ⟨by kernel_rfl, ?_⟩) (by assumption) ?_
  rotate_left 1
  · intro W_ hSw; (try dsimp only at hSw); go_simp; (first | done | with_reducible rfl)
  try simp only [Act.put, List.setIfInBounds_toArray, List.set_cons_zero, List.set_cons_succ]
  refine wpAnyH_ready (rs := [21]) (by kernel_rfl) (by simp) ?_
  refine AllReadyH.cons (o := _) rfl (fun K hK => ?_) AllReadyH.nil
  go_simp
  (go_at_call 9; (with_reducible refine (awake_any _).mono ?_); rintro e_ a5 ⟨rfl, hv5⟩; have hu5 : Below y2.heap.size y2 a5 := hu4.trans (hv5.mono hu4.size); have hu5w := hby2.trans (hu5.mono hby2.size))
  go_wp2_with fail
  refine hK.out _ _ ?_ (fun hHeld => ?_)
  · exact r14.to hu5
  clear hK K
  try simp only [Act.put, List.setIfInBounds_toArray, List.set_cons_zero, List.set_cons_succ]
  refine takeD (i := 22) (oi := _) (v := ?vv85) (d := some 223) rfl (by kernel_rfl) (by kernel_rfl) (by kernel_rfl) (by kernel_rfl) (fun _ _ _ h => h) (Or.inl ⟨by kernel_rfl, ?_⟩) (by assumption) ?_
  rotate_left 1
  · intro W_ hSw; (try dsimp only at hSw); go_simp; (first | done | with_reducible rfl)
  try simp only [Act.put, List.setIfInBounds_toArray, List.set_cons_zero, List.set_cons_succ]
  refine takeD (i := 23) (oi := _) (v := ?vv86) (d := some 18) rfl (by kernel_rfl) (by kernel_rfl) (by kernel_rfl) (by kernel_rfl) (fun _ _ _ h => h) (Or.inl ⟨by kernel_rfl, ?_⟩) (by assumption) ?_
  rotate_left 1
  · intro W_ hSw; (try dsimp only at hSw); go_simp; (first | done | with_reducible rfl)
  try simp only [Act.put, List.setIfInBounds_toArray, List.set_cons_zero, List.set_cons_succ]
  refine wpAnyH_done (by kernel_rfl) ?_ _
  go_wp2
  go_ret
  exact ⟨rfl, hu5w⟩
end Go.Proofs.Ytopkncbpkccfbaa
namespace Go.Proofs.Ytopkncbpkccfbaa
open Go.RowKit
theorem stageTells_walk (ow t : Nat) (n : Int) (x : Blk) (v : List Nat) (Av : Option Addr) (cv : Nat) (s o : Stv) (l : List Blk) (Al : Option Addr) (cl ch : Nat) (w : World)
    (how : ow < 65536) (ht : t < 4294967296) (hch : ch < 4294967296) (hx : x.Ok w w.heap.size) (sv : Sq u16w w w.heap.size Av v) (hv : ∀ x ∈ v, x < 65536) (hcv : v.length ≤ cv) (hcv2 : cv ≤ 9223372036854775807)
    (hs : s.Ok w w.heap.size) (ho : o.Ok w w.heap.size) (hl : Blks w w.heap.size Al l) (hcl : l.length ≤ cl) (hcl2 : cl ≤ 9223372036854775807) :
    Calls Try.prog 8 #[.int .u16 (ow : Int), .int .u32 (t : Int), .int .i64 n, .agg #[.int .i64 x.a, .slice x.A x.ws.length x.c], .slice Av v.length cv, .agg s.C.toArray, .agg o.C.toArray, .slice Al l.length cl, .int .u32 (ch : Int)] w fun e w' => e = .returned (.bool true) ∧ Below w.heap.size w w' := by
  by_cases h : 100 < x.ws.length ∨ 40 < v.length ∨ light s.bs = false ∨ light o.bs = false ∨ light l = false
  · exact tells_short ow t n x v Av cv s o l Al cl ch w hs ho hl hcl hcl2 h
  · have hb : ∀ b : Bool, ¬ b = false → b = true := fun b => by cases b <;> simp
    exact tells_long ow t n x v Av cv s o l Al cl ch w how ht hch hx sv hv hcv hcv2 hs ho hl hcl hcl2 (by omega) (by omega) (hb _ fun q => h (.inr (.inr (.inl q)))) (hb _ fun q => h (.inr (.inr (.inr (.inl q))))) (hb _ fun q => h (.inr (.inr (.inr (.inr q)))))
end Go.Proofs.Ytopkncbpkccfbaa
