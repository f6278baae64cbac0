/- Layer 15, the document's answer: word (layer 14). -/
import Derived.Test.YthhokpaidekmnaaVrLex
import Derived.Test.YthhokpaidekmnaaVdTo
namespace Go.Proofs.Ythhokpaidekmnaa
open Go.RowKit
set_option linter.unusedVariables false
set_option linter.unusedSimpArgs false
set_option maxRecDepth 100000
attribute [local go_sem] Later.cell Later.frozen setCell_twice
set_option maxHeartbeats 4000000 in
theorem rwd_any (s : ByteArray) (w : World) (h0 : 0 < s.size) (hs : s.size ≤ 8192) :
  Calls Try.prog 49 #[.string s] w fun e w' => e = .returned (.bool (Vd.unit s)) ∧ Below w.heap.size w w' := by
 have LX := Lib.hid (fun w => lex_any s w h0 hs)
 obtain ⟨u, hu⟩ : ∃ u, Vd.unit s = u := ⟨_, rfl⟩
 rw [hu]
 have HU := Lib.hid hu
 clear hu h0 hs
 go_enter Try.func49, Try.ntmps49
 go_wp2_with fail
 (with_reducible refine (LX.out _).mono ?_)
 rintro e_ w_ ⟨A, n, c, l, f1, f2, rfl, hb, hn, hr, ht, hq⟩
 have HN := Lib.hid hn
 have HR := Lib.hid hr
 have HT := Lib.hid ht
 have HQ := Lib.hid hq
 clear hn hr ht hq
 obtain ⟨x, rfl⟩ := later_is hb
 have hz_x := x.bel.size
 by_cases hf : f1 = 0
 rotate_left
 ·have g1 : (f1 == 0) = false := beq_eq_false_iff_ne.2 hf
  obtain rfl : u = false := by
   cases u
   ·rfl
   ·exact absurd (HQ.out HU.out).1 hf
  clear hf
  go_wp2
  go_ret
  exact ⟨rfl, belo⟩
 subst hf
 by_cases h2 : n = 2
 rotate_left
 ·have g2 : ((n : Int) == 2) = false := beq_eq_false_iff_ne.2 (by omega)
  obtain rfl : u = false := by
   cases u
   ·rfl
   ·have h3 := HN.out
    rw [(HQ.out HU.out).2] at h3
    exact absurd h3.symm h2
  clear h2
  go_wp2
  go_ret
  exact ⟨rfl, belo⟩
 subst h2
 obtain ⟨gb, ob, t, rfl, hg, hl0, hc⟩ := HR.out.at_ (j := 0) (by rw [HN.out]; omega)
 have c0 : x.val.cell? ⟨gb, ob, none⟩ = some (.int .u8 (t.kind : Int)) := by
  have := hc 0 _ rfl
  simpa using this
 have c1 : x.val.cell? ⟨gb, ob + 1, none⟩ = some (.string t.text) := by
  have := hc 1 _ rfl
  simpa using this
 have HL0 := Lib.hid hl0
 clear hc hl0
 have hg' : gb < x.val.heap.size := hg
 clear hg
 by_cases h1 : t.kind = 1
 rotate_left
 ·have g3 : ((t.kind : Int) == 1) = false := beq_eq_false_iff_ne.2 (by omega)
  obtain rfl : u = false := by
   cases u
   ·rfl
   ·have h3 := HL0.out
    rw [(HQ.out HU.out).2] at h3
    obtain rfl := Option.some.inj h3
    exact absurd rfl h1
  clear h1
  go_wp2
  go_ret
  exact ⟨rfl, belo⟩
 have g3 : ((t.kind : Int) == 1) = true := beq_iff_eq.2 (by omega)
 have H1 := Lib.hid h1
 clear h1
 by_cases h4 : t.text = s
 rotate_left
 ·have g4 : (t.text.toList == s.toList) = false := str_ne h4
  obtain rfl : u = false := by
   cases u
   ·rfl
   ·have h3 := HL0.out
    rw [(HQ.out HU.out).2] at h3
    obtain rfl := Option.some.inj h3
    exact absurd rfl h4
  clear h4
  go_wp2
  go_ret
  exact ⟨rfl, belo⟩
 have g4 : (t.text.toList == s.toList) = true := str_eq h4
 obtain rfl : u = true := by
  rw [← HU.out, ← h4]
  exact HT.out t (List.mem_of_getElem? HL0.out) H1.out
 clear h4
 go_wp2
 go_ret
 exact ⟨rfl, belo⟩
end Go.Proofs.Ythhokpaidekmnaa
