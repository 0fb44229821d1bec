/-
  The law HeadSeqs: the walk.
-/
import Derived.Test.YteiafgoigfehgaaDoorAwake8
import Derived.Test.YteiafgoigfehgaaDoorSeqR
import Derived.Test.YteiafgoigfehgaaDoorHeadC
namespace Go.Proofs.YteiafgoigfehgaaDoor
open Go.RowKit

set_option maxRecDepth 100000 in
set_option maxHeartbeats 3200000 in
theorem headSeqs_walk (s : ByteArray) (hs : s.size ≤ 1048576) (n : Int) (n0 : -9223372036854775808 ≤ n) (n1 : n ≤ 9223372036854775807) (w : World) (hm : Ml w) :
    Calls Tryd.prog 7 #[.string s, .int .i64 n] w fun e w' => e = .returned (.bool true) ∧ Below w.heap.size w w' := by
  have HM := Lib.hid hm
  clear hm
  have HS := Lib.hid (fun wx hx => seq_c s (by omega) wx hx)
  have HSR := Lib.hid (fun wx => seqR_c s (by omega) wx)
  rw [seq_same] at HS
  unfold SeqPost at HS HSR
  have HC := Lib.hid (fun wx => cseq_c n n0 n1 s (by omega) wx)
  have HCR := Lib.hid (fun wx => cseqR_c n n0 n1 s (by omega) wx)
  have HT := Lib.hid (fun wx => time_c s (by omega) wx)
  have HTR := Lib.hid (fun wx => timeR_c s (by omega) wx)
  have HL := Lib.hid (fun wx => call_c s (by omega) wx)
  have HLR := Lib.hid (fun wx => callR_c s (by omega) wx)
  have HW := Lib.hid (fun wx hx => awake_c wx hx)
  obtain ⟨p, hp⟩ : ∃ p, p = seqR (us s) := ⟨_, rfl⟩
  rw [← hp] at HS HSR
  obtain ⟨q, hq⟩ : ∃ q, q = cseqS n (us s) := ⟨_, rfl⟩
  rw [← hq] at HC HCR
  obtain ⟨t, ht⟩ : ∃ t, t = timeS (us s) := ⟨_, rfl⟩
  rw [← ht] at HT HTR
  obtain ⟨c, hc⟩ : ∃ c, c = callS (us s) := ⟨_, rfl⟩
  rw [← hc] at HL HLR
  clear hp hq ht hc
  obtain ⟨p1, p2, p3⟩ := p
  obtain ⟨q1, q2⟩ := q
  obtain ⟨t1, t2⟩ := t
  dsimp only at HS HSR HC HCR HT HTR
  obtain ⟨P2, hP2⟩ : ∃ P2, P2 = bs p2 := ⟨_, rfl⟩
  rw [← hP2] at HS HSR
  obtain ⟨Q1, hQ1⟩ : ∃ Q1, Q1 = bs q1 := ⟨_, rfl⟩
  rw [← hQ1] at HC HCR
  clear hP2 hQ1
  cases c
  all_goals
    go_enter Tryd.func7, Tryd.ntmps7
    go_wp2_with (first | (go_at_call 22; refine (HS.out _ HM.out).mono ?_; rintro e w1 ⟨rfl, hB1⟩) | (go_at_call 23; refine (HSR.out _).mono ?_; rintro e w2 ⟨rfl, hC2⟩; have hB2 := hB1.trans (hC2.mono hB1.size); clear hC2) | (go_at_call 24; refine (HC.out _).mono ?_; rintro e w3 ⟨rfl, hC3⟩; have hB3 := hB2.trans (hC3.mono hB2.size); clear hC3) | (go_at_call 25; refine (HCR.out _).mono ?_; rintro e w4 ⟨rfl, hC4⟩; have hB4 := hB3.trans (hC4.mono hB3.size); clear hC4) | (go_at_call 16; refine (HT.out _).mono ?_; rintro e wx ⟨rfl, rfl⟩) | (go_at_call 26; refine (HTR.out _).mono ?_; rintro e wx ⟨rfl, rfl⟩) | (go_at_call 27; refine (HL.out _).mono ?_; rintro e wx ⟨rfl, rfl⟩) | (go_at_call 28; refine (HLR.out _).mono ?_; rintro e wx ⟨rfl, rfl⟩) | (go_at_call 15; refine (HW.out _ (HM.out.below hB4)).mono ?_; rintro e w5 ⟨rfl, hC5⟩; have hB5 := hB4.trans (hC5.mono hB4.size); clear hC5))
    go_ret
    exact ⟨rfl, hB5⟩

end Go.Proofs.YteiafgoigfehgaaDoor
