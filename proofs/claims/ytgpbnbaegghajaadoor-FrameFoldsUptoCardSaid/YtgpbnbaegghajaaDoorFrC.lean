/-
  The blanks at a text's end: rosterref06.behind, strings.TrimRight(s, " \t"); frame.first and the reference's.
-/
import Derived.Test.YtgpbnbaegghajaaDoorFrB
import Derived.Lib.AsciiSet
namespace Go.Proofs.YtgpbnbaegghajaaDoor
open Go.RowKit

theorem trimR_done (r : ByteArray) (h : ¬ ∃ h : 0 < r.size, blank r[r.size - 1] = true) : trimR (us r) = us r ∧ ((r.size = 0 ∧ r.toList.isEmpty = true ∧ r = ByteArray.empty) ∨ (∃ h : 0 < r.size, blank r[r.size - 1] = false ∧ r.toList.isEmpty = false ∧ ¬ r = ByteArray.empty)) := by
  by_cases hz : 0 < r.size
  · have hb : blank r[r.size - 1] = false := by simpa using fun hh => h ⟨hz, hh⟩
    exact ⟨trimR_fix r (.inr ⟨hz, hb⟩), .inr ⟨hz, hb, isEmpty_f (by omega), ne_empty (by omega)⟩⟩
  · exact ⟨trimR_fix r (.inl (by omega)), .inl ⟨by omega, by rw [isEmpty_us]; exact decide_eq_true (by omega), eq_empty (by omega)⟩⟩

set_option maxHeartbeats 800000 in
theorem behind_c (s : ByteArray) (hs : s.size ≤ 9223372036854775807) (w : World) :
    Calls Tryd.prog 37 #[.string s] w fun e w' => e = .returned (.string (bs (trimR (us s)))) ∧ w = w' := by
  go_enter Tryd.func37, Tryd.ntmps37
  go_wp2
  go_loop [0] (fun v => ∃ t : ByteArray, v = .string t ∧ t.size ≤ s.size ∧ trimR (us t) = trimR (us s)) (fun v => lenS v)
  case atStart => exact ⟨_, rfl, Nat.le_refl _, rfl⟩
  case round =>
    obtain ⟨r, rfl, hr, hb⟩ := hrel
    have HB := Lib.hid hb; clear hb
    by_cases hbr : ∃ h : 0 < r.size, blank r[r.size - 1] = true
    · obtain ⟨h3, hbr⟩ := hbr
      have HS := Lib.hid ((trimR_step r h3 hbr).trans HB.out)
      have h1 := isEmpty_f (s := r) (by omega)
      have h2 := ne_empty (s := r) (by omega)
      rw [blank_of] at hbr
      go_wp2_with (go_at_call 65; refine (classR_c _ _).mono ?_; rintro e w' ⟨rfl, rfl⟩)
      go_round
      case rel => exact ⟨_, rfl, by rw [size_extract _ _ _ (by omega)]; omega, HS.out⟩
      case measure => simp only [lenS]; rw [size_extract _ _ _ (by omega)]; omega
    · obtain ⟨hf, hx⟩ := trimR_done r hbr
      have HT := Lib.hid (hf.symm.trans HB.out)
      clear hbr HB hf
      rcases hx with ⟨hz, h1, h2⟩ | ⟨h3, hbl, h1, h2⟩
      · clear h2
        go_wp2
        go_ret
        exact ⟨ret_bs HT.out, rfl⟩
      · rw [blank_of] at hbl
        go_wp2_with (go_at_call 65; refine (classR_c _ _).mono ?_; rintro e w' ⟨rfl, rfl⟩)
        go_ret
        exact ⟨ret_bs HT.out, rfl⟩

set_option maxHeartbeats 800000 in
theorem trimASCII_c (b : Nat) (s : ByteArray) (hs : s.size ≤ 9223372036854775807) (w : World) (hc : ∀ x : UInt8, w.cell? ⟨b, x.toNat, none⟩ = some (.bool (blank x))) :
    Calls Tryd.prog 61 #[.string s, .pointer (some ⟨b, 0, none⟩)] w fun e w' => e = .returned (.string (bs (trimR (us s)))) ∧ w = w' := by
  have HC := Lib.hid (fun (x : UInt8) => Tryd.asciiSet_contains b x (blank x) w (hc x))
  clear hc
  go_enter Tryd.func61, Tryd.ntmps61
  go_wp2
  go_loop [0] (fun v => ∃ t : ByteArray, v = .string t ∧ t.size ≤ s.size ∧ trimR (us t) = trimR (us s)) (fun v => lenS v)
  case atStart => exact ⟨_, rfl, Nat.le_refl _, rfl⟩
  case round =>
    obtain ⟨r, rfl, hr, hb⟩ := hrel
    have HB := Lib.hid hb; clear hb
    by_cases hbr : ∃ h : 0 < r.size, blank r[r.size - 1] = true
    · obtain ⟨h3, hbr⟩ := hbr
      have HS := Lib.hid ((trimR_step r h3 hbr).trans HB.out)
      have h1 := isEmpty_f (s := r) (by omega)
      have h2 := ne_empty (s := r) (by omega)
      have HCr := Lib.hid (HC.out r[r.size - 1])
      rw [hbr] at HCr
      clear hbr
      go_wp2_with (go_at_call 71; refine HCr.out.mono ?_; rintro e w' ⟨rfl, rfl⟩)
      go_round
      case rel => exact ⟨_, rfl, by rw [size_extract _ _ _ (by omega)]; omega, HS.out⟩
      case measure => simp only [lenS]; rw [size_extract _ _ _ (by omega)]; omega
    · obtain ⟨hf, hx⟩ := trimR_done r hbr
      have HT := Lib.hid (hf.symm.trans HB.out)
      clear hbr HB hf
      rcases hx with ⟨hz, h1, h2⟩ | ⟨h3, hbl, h1, h2⟩
      · clear h2
        go_wp2
        go_ret
        exact ⟨ret_bs HT.out, rfl⟩
      · have HCr := Lib.hid (HC.out r[r.size - 1])
        rw [hbl] at HCr
        clear hbl
        go_wp2_with (go_at_call 71; refine HCr.out.mono ?_; rintro e w' ⟨rfl, rfl⟩)
        go_ret
        exact ⟨ret_bs HT.out, rfl⟩

theorem blank_in (x : UInt8) : ([32, 9] : List UInt8).contains x = blank x :=
  all_bytes (fun x => ([32, 9] : List UInt8).contains x = blank x) (by decide +kernel) x

set_option maxHeartbeats 3200000 in
set_option maxRecDepth 100000 in
theorem trimRight_c (s : ByteArray) (hs : s.size ≤ 9223372036854775807) (w : World) :
    Calls Tryd.prog 28 #[.string s, .string ⟨#[32, 9]⟩] w fun e w' => e = .returned (.string (bs (trimR (us s)))) ∧ Below w.heap.size w w' := by
  obtain ⟨T, hT⟩ : ∃ T : ByteArray, T = ⟨#[32, 9]⟩ := ⟨_, rfl⟩
  rw [← hT]
  have hinfo : (Tryd.prog.info? 81).map (fun i => (i.zero, i.size)) = some (some (.agg (Array.replicate 256 (.bool false))), 256) := by kernel_rfl
  have hv := (zero_of_info hinfo).1
  have hi := (zero_of_info hinfo).2
  obtain ⟨C, hC⟩ : ∃ C, C = Lib.setCells [32, 9] := ⟨_, rfl⟩
  have HM := Lib.hid (fun wx => show Calls Tryd.prog 60 #[.string T] wx fun e w' => e = .returned (.tuple #[.agg C, .bool true]) ∧ w' = wx.alloc (.cells C 81) from
    (Tryd.strings_makeASCIISet hv T wx (by rw [hT]; decide) (fun j b hj => by
      rw [hT] at hj
      have : b ∈ ([32, 9] : List UInt8) := List.mem_of_getElem? hj
      simp only [List.mem_cons, List.not_mem_nil, or_false] at this
      rcases this with rfl | rfl <;> decide)).mono fun e w' ⟨a, b⟩ => by
        have e1 : T.data.toList = [32, 9] := by rw [hT]
        rw [e1, ← hC] at a b
        exact ⟨a, b⟩)
  have hsz : C.size = 256 := by rw [hC]; exact Lib.setCells_size _
  have hsc : (storeCells ⟨w.heap.size + 1, 0, none⟩ C.toList 0).run Tryd.prog ((w.alloc (.cells C 81)).alloc (.cells (Array.replicate 256 (.bool false)) 81)) = .ok () ((w.alloc (.cells C 81)).alloc (.cells C 81)) := by
    have := run_storeCells_new (P := Tryd.prog) (w.alloc (.cells C 81)) 81 (Array.replicate 256 (.bool false)) C (by rw [hsz]; exact hi) (by rw [hsz, Array.size_replicate]) (by rw [hC]; exact Lib.setCells_one _)
    simpa using this
  have HA := Lib.hid (trimASCII_c (w.heap.size + 1) s hs ((w.alloc (.cells C 81)).alloc (.cells C 81)) (fun x => by
    rw [World.cell?_alloc_at _ _ _ _ (by simp), hC, Lib.setCells_at, blank_in]))
  have hn1 : ((T.size : Int) == 1) = false := by rw [hT]; rfl
  have hn2 : T.toList.isEmpty = false := by rw [hT, isEmpty_us]; rfl
  have hn3 : ¬ T = ByteArray.empty := by rw [hT]; decide
  clear hT hC hinfo
  by_cases hz : s.size = 0
  · obtain rfl := eq_empty hz
    clear hv hi hsc
    go_enter Tryd.func28, Tryd.ntmps28
    go_wp2
    go_ret
    exact ⟨ret_bs (by rfl), Below.refl _ _⟩
  · have h1 := isEmpty_f hz
    have h2 := ne_empty hz
    go_enter Tryd.func28, Tryd.ntmps28
    go_wp2_with (first | (go_at_call 60; refine (HM.out _).mono ?_; rintro e w' ⟨rfl, hw⟩; rw [hw]) | (go_at_call 61; refine HA.out.mono ?_; rintro e w2 ⟨rfl, rfl⟩))
    go_ret
    exact ⟨rfl, ((Below.refl _ _).alloc (Nat.le_refl _) _).alloc (by simp) _⟩

theorem Blk.f6 {w : World} {g : Nat} {t : TypeId} {a b c d e f : Value} (h : Blk w g t #[a, b, c, d, e, f]) :
    w.cell? ⟨g, 0, none⟩ = some a ∧ w.cell? ⟨g, 1, none⟩ = some b ∧ w.cell? ⟨g, 2, none⟩ = some c ∧ w.cell? ⟨g, 3, none⟩ = some d ∧ w.cell? ⟨g, 4, none⟩ = some e ∧ w.cell? ⟨g, 5, none⟩ = some f :=
  ⟨boxedCell h 0, boxedCell h 1, boxedCell h 2, boxedCell h 3, boxedCell h 4, boxedCell h 5⟩
theorem us_ne (s : ByteArray) (h : s.size ≠ 0) : ¬ us s = [] := by
  intro e; exact h (by rw [← length_us, e]; rfl)
theorem us_beq (s : ByteArray) : (us s == []) = decide (s.size = 0) := by
  by_cases h : s.size = 0
  · rw [eq_empty h]; rfl
  · rw [decide_eq_false h, beq_eq_false_iff_ne]; exact us_ne s h
theorem first_req (M T R B : ByteArray) (x : Int) (H : List Hdr) (h : M.size ≠ 0) : firstS ⟨us M, us T, x, us R, H, us B⟩ = (token (us M) && targS (us T) && (x == 0) && decide (R.size = 0)) := by
  unfold firstS; rw [if_neg (us_ne M h), us_beq]
theorem first_res (T R B : ByteArray) (x : Int) (H : List Hdr) : firstS ⟨us ByteArray.empty, us T, x, us R, H, us B⟩ = (decide (100 ≤ x) && decide (x ≤ 699) && valS (us R) && decide (T.size = 0)) := by
  unfold firstS; rw [if_pos (show us ByteArray.empty = [] from rfl), us_beq]

set_option maxHeartbeats 3200000 in
theorem first_c (M T R B : ByteArray) (x : Int) (u : Value) (H : List Hdr) (hM : M.size ≤ 4294967280) (hT : T.size ≤ 4294967280) (hR : R.size ≤ 4294967280) (w : World) :
    Calls Tryd.prog 50 #[.agg #[.string M, .string T, .int .i64 x, .string R, u, .string B]] w fun e w' => e = .returned (.bool (firstS ⟨us M, us T, x, us R, H, us B⟩)) ∧ Below w.heap.size w w' := by
  have hB0 : Below w.heap.size w (w.alloc (.cells #[.string M, .string T, .int .i64 x, .string R, u, .string B] 25)) := (Below.refl _ _).alloc (Nat.le_refl _) _
  by_cases hz : M.size = 0
  · obtain rfl := eq_empty hz
    have H1 := Lib.hid (fun wx => value_c' R (by omega) wx)
    have hV := first_res T R B x H
    by_cases x0 : 100 ≤ x <;> by_cases x1 : x ≤ 699 <;> by_cases tz : T.size = 0
    all_goals try (exfalso; omega)
    all_goals
      cases hv : valS (us R)
      all_goals
        rw [hv] at H1 hV
        first
          | rw [decide_eq_true x0] at hV
          | rw [decide_eq_false x0] at hV
        first
          | rw [decide_eq_true x1] at hV
          | rw [decide_eq_false x1] at hV
        first
          | rw [decide_eq_true tz] at hV
          | rw [decide_eq_false tz] at hV
        have HV := Lib.hid hV
        clear hv hV
        first
          | (have q1 := isEmpty_f tz; have q2 := ne_empty tz)
          | (obtain rfl := eq_empty tz)
        go_enter Tryd.func50, Tryd.ntmps50
        go_wp2_with (go_at_call 51; refine (H1.out _).mono ?_; rintro e wx ⟨rfl, rfl⟩)
        go_ret
        exact ⟨ret_bool (by rw [HV.out]; rfl), hB0⟩
  · have H1 := Lib.hid (fun wx => token_c M (by omega) wx)
    have H2 := Lib.hid (fun wx => target_c T (by omega) wx)
    have hV := first_req M T R B x H hz
    have m1 := isEmpty_f hz
    have m2 := ne_empty hz
    by_cases x0 : x = 0 <;> by_cases rz : R.size = 0
    all_goals
      cases hv : token (us M) <;> cases ht : targS (us T)
      all_goals
        rw [hv] at H1 hV
        rw [ht] at H2 hV
        first
          | (have x2 : (x == 0) = true := by simpa using x0)
          | (have x2 : (x == 0) = false := by simpa using x0)
        rw [x2] at hV
        first
          | rw [decide_eq_true rz] at hV
          | rw [decide_eq_false rz] at hV
        have HV := Lib.hid hV
        clear hv ht hV x0
        first
          | (have q1 := isEmpty_f rz; have q2 := ne_empty rz)
          | (obtain rfl := eq_empty rz)
        go_enter Tryd.func50, Tryd.ntmps50
        go_wp2_with (first | (go_at_call 30; refine (H1.out _).mono ?_; rintro e wx ⟨rfl, rfl⟩) | (go_at_call 69; refine (H2.out _).mono ?_; rintro e wx ⟨rfl, hC⟩; obtain ⟨hbk, hB1, hz1⟩ := newCall hC; obtain ⟨c0, c1, c2, c3, c4, c5⟩ := hbk.f6; clear hbk))
        go_ret
        exact ⟨ret_bool (by rw [HV.out]; rfl), by first | exact hB1 | exact hB0⟩

end Go.Proofs.YtgpbnbaegghajaaDoor
