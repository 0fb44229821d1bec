/-
  head.fields, head.Event, rosterref08.Event.
-/
import Derived.Test.YteiafgoigfehgaaDoorFieldsB
namespace Go.Proofs.YteiafgoigfehgaaDoor
open Go.RowKit

theorem mem_glue (sep : List UInt8) : ∀ (L : List (List UInt8)) (p : List UInt8), p ∈ L → p.length ≤ (glue sep L).length
  | [], p, h => by cases h
  | [x], p, h => by rw [List.mem_singleton.1 h]; exact Nat.le_refl _
  | x :: y :: r, p, h => by
    rw [glue]
    rcases List.mem_cons.1 h with rfl | h
    · simp
    · have := mem_glue sep (y :: r) p h
      simp; omega
theorem parts_bd (c : UInt8) (l p : List UInt8) (h : p ∈ parts l c) : p.length ≤ l.length := by
  have := mem_glue [c] (parts l c) p h
  rwa [glue_parts] at this
theorem parts_ne (c : UInt8) (l : List UInt8) : parts l c ≠ [] := partsGo_ne c l false false []
/-- a slice behind its first element -/
theorem RStrs.tailA {w : World} {b off cap : Nat} {x : List UInt8} {L : List (List UInt8)} (h : RStrs w (.slice (some ⟨b, off, none⟩) (x :: L).length cap) (x :: L)) (hc : cap = 1) : RStrs w (.slice (some ⟨b, off, none⟩) L.length 0) L := by
  rcases h.cases with ⟨⟨_, _, h1⟩, _⟩ | ⟨b', off', cap', h1, h2, h2', h3, h4⟩
  · injection h1 with _ h1 _; simp at h1
  · injection h1 with e1 e2 e3
    injection e1 with e1
    injection e1 with eb eo
    subst eb eo e3 hc
    rw [List.length_cons] at h2
    have hL : L = [] := List.eq_nil_of_length_eq_zero (by omega)
    subst hL
    exact .inr ⟨b, off, 0, rfl, Nat.zero_le _, Nat.zero_le _, h3, fun j u hj => by simp at hj⟩
theorem RStrs.tailB {w : World} {b off cap : Nat} {x : List UInt8} {L : List (List UInt8)} (h : RStrs w (.slice (some ⟨b, off, none⟩) (x :: L).length cap) (x :: L)) : RStrs w (.slice (some ⟨b, off + 1, none⟩) L.length (cap - 1)) L := by
  rcases h.cases with ⟨⟨_, _, h1⟩, _⟩ | ⟨b', off', cap', h1, h2, h2', h3, h4⟩
  · injection h1 with _ h1 _; simp at h1
  · injection h1 with e1 e2 e3
    injection e1 with e1
    injection e1 with eb eo
    subst eb eo e3
    rw [List.length_cons] at h2
    refine .inr ⟨b, off + 1, cap - 1, rfl, by omega, by omega, h3, fun j u hj => ?_⟩
    have hj' : j < L.length := by have := (List.getElem?_eq_some_iff.1 hj).1; simpa using this
    have := h4 (j + 1) (by simpa using hj')
    rw [show off + 1 + j = off + (j + 1) from by omega, this]
    rw [List.getElem?_map, List.getElem?_eq_getElem hj'] at hj
    simpa [sv] using hj

def nameP (l : List UInt8) : List UInt8 := trim ((parts l 59).headD [])
def fieldsP (l : List UInt8) : List Prm × Int := fieldsS (parts l 59).tail
def okP (l : List UInt8) : Bool := token (nameP l) && ((fieldsP l).2 == 0)

set_option maxHeartbeats 800000 in
theorem fieldsH_c (s : ByteArray) (hs : s.size ≤ 4294967280) (w : World) (hm : Ml w) :
    Calls Tryd.prog 47 #[.string s] w fun e w' => ∃ u, e = .returned (.tuple #[.string (bs (nameP (us s))), u, .bool (okP (us s))]) ∧ RPrms w' u (fieldsP (us s)).1 ∧ Fresh w.heap.size u ∧ Below w.heap.size w w' := by
  have HB := Lib.hid (fun p hp => Nat.le_trans (parts_bd 59 (us s) p hp) (by rw [length_us]; exact hs))
  have HPC := Lib.hid (parts_c s (by omega) 59 w)
  have hne := parts_ne 59 (us s)
  have HM := Lib.hid hm
  clear hm
  have HN := Lib.hid (show nameP (us s) = trim ((parts (us s) 59).headD []) from rfl)
  have HF := Lib.hid (show fieldsP (us s) = fieldsS (parts (us s) 59).tail from rfl)
  have HO := Lib.hid (show okP (us s) = (token (nameP (us s)) && ((fieldsP (us s)).2 == 0)) from rfl)
  obtain ⟨L, hL⟩ : ∃ L, L = parts (us s) 59 := ⟨_, rfl⟩
  rw [← hL] at HB HPC HN HF hne
  clear hL
  obtain ⟨x, r, rfl⟩ : ∃ x r, L = x :: r := by cases L with | nil => exact absurd rfl hne | cons x r => exact ⟨x, r, rfl⟩
  clear hne
  have HTR := Lib.hid (fun wx => trim_c (bs x) (by rw [size_bs]; have := HB.out x (List.mem_cons_self ..); omega) wx)
  rw [us_bs] at HTR
  have hxl := HB.out x (List.mem_cons_self ..)
  have htl := trim_le x
  have HTK := Lib.hid (fun wx => token_c (bs (nameP (us s))) (by rw [size_bs, HN.out]; show (trim x).length ≤ _; omega) wx)
  rw [us_bs] at HTK
  rw [show (trim x) = nameP (us s) from HN.out.symm] at HTR
  have HFC := Lib.hid (fun wx v hx hv => fields_c v r wx hx hv (fun p hp => HB.out p (List.mem_cons_of_mem _ hp)))
  rw [show fieldsS r = fieldsP (us s) from HF.out.symm] at HFC
  clear hxl htl
  obtain ⟨N, hN⟩ : ∃ N, N = nameP (us s) := ⟨_, rfl⟩
  obtain ⟨F, hF⟩ : ∃ F, F = fieldsP (us s) := ⟨_, rfl⟩
  rw [← hN] at HTR HTK HO ⊢
  rw [← hF] at HFC HO ⊢
  clear hN hF HN HF
  obtain ⟨Fl, Fe⟩ := F
  dsimp only at HO HFC ⊢
  go_enter Tryd.func47, Tryd.ntmps47
  cases htk : token N
  all_goals
    rw [htk] at HTK HO; clear htk
    go_wp2_with (first | (go_at_call 38; refine (HPC.out).mono ?_; rintro e w1 ⟨v, rfl, hv, hC⟩; have HV := Lib.hid hv; obtain ⟨ao, cap, rfl, hm1, c1⟩ := hv.form; obtain ⟨b, off, rfl, hb1, hc1⟩ := c1 (by simp); have x0 := hc1 0 (by simp); rw [Nat.add_zero] at x0; have k1 : (0 : Int) < ((x :: r).length : Int) := (by simp); clear hc1 c1; unfold maxLen at hm1) | (go_at_call 37; refine (HTR.out _).mono ?_; rintro e wx ⟨rfl, rfl⟩) | (go_at_call 63; refine (HFC.out _ _ (HM.out.below hC) (by first | exact HV.out.tailB | exact HV.out.tailA (by first | assumption | omega))).mono ?_; rintro e w2 ⟨u, rfl, hu, hF0, hC2⟩; have hF := hF0.mono hC.size; clear hF0; have HU := Lib.hid hu; clear hu; have hB2 := hC.trans (hC2.mono hC.size)) | (go_at_call 40; refine (HTK.out _).mono ?_; rintro e wx ⟨rfl, rfl⟩))
    all_goals
      go_ret3
      exact ⟨_, by rw [HO.out]; rfl, HU.out, hF, hB2⟩

end Go.Proofs.YteiafgoigfehgaaDoor
