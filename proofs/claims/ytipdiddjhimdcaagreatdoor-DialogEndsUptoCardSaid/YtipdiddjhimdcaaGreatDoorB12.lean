/-
  Packed: XAny, XBar.
-/
import Derived.Test.YtipdiddjhimdcaaGreatDoorB04
import Derived.Laws.RangeAny
import Derived.Laws.Runes
import Derived.Deep.LoopGhost
import Derived.Lib.IndexAny
import Derived.Lib.OthersKept
import Derived.Shelf.Strings.AsciiSet
import Derived.Test.YtipdiddjhimdcaaGreatDoorB11
namespace Go.Proofs.YtipdiddjhimdcaaGreatDoor
open Go.RowKit

theorem get_bang (s : ByteArray) (i : Nat) (h : i < s.size) : s.get! i = s[i]'h := get_at s i h
/-- what stands within a rune of more bytes than one is no ASCII byte -/
theorem decode_cont (s : ByteArray) (pos : Nat) (h : pos < s.size) (ha : 128 ≤ (s[pos]'h).toNat) (k : Nat) (h2 : k < (Utf8.decode s pos).2) (hj : pos + k < s.size) : 128 ≤ (s[pos + k]'hj).toNat := by
  have hn : ¬ (s[pos]'h).toNat < 128 := by omega
  have h0 := get_bang s pos h
  rw [← get_bang s (pos + k) hj]
  have ha' : 128 ≤ (s.get! pos).toNat := by rw [h0]; exact ha
  simp only [Utf8.decode, get_at s pos h, hn, if_false] at h2
  repeat' split at h2
  all_goals
    simp only [Bool.and_eq_true, beq_iff_eq, decide_eq_true_eq] at *
    have hk : k = 0 ∨ k = 1 ∨ k = 2 ∨ k = 3 := by omega
    rcases hk with rfl | rfl | rfl | rfl
  all_goals first
    | (simpa using ha')
    | (exfalso; omega)
    | omega

theorem validRune_c (r : Int) (w : World) : Calls Tryz.prog 189 #[.int .i32 r] w fun e w' => e = .returned (.bool (Utf8.valid r)) ∧ w = w' := by
  have HV := Lib.hid (show Utf8.valid r = (decide (0 ≤ r) && decide (r < 55296) || decide (57344 ≤ r) && decide (r ≤ 1114111)) from rfl)
  by_cases h0 : 0 ≤ r <;> by_cases h1 : r < 55296 <;> by_cases h2 : 57343 < r <;> by_cases h3 : r ≤ 1114111
  all_goals
    have HX := Lib.hid HV.out
    go_enter Tryz.func189, Tryz.ntmps189
    go_wp2
    all_goals
      go_ret
      refine ⟨ret_bool ?_, rfl⟩
      rw [HX.out]
      simp only [Bool.true_eq, Bool.false_eq, Bool.or_eq_true, Bool.and_eq_true, decide_eq_true_eq, Bool.or_eq_false_iff, Bool.and_eq_false_iff, decide_eq_false_iff_not]
      first | omega | (constructor <;> omega)

theorem quiet_same2 {P : Program} {f : FuncId} {args : Array Value} {w : World} {k n : Nat} {v : Value}
    (h : Calls P f args (w.drewN (k + n)) fun e w' => e = .returned v ∧ w.drewN (k + n) = w') : Calls P f args (w.drewN (k + n)) fun e w'' => e = .returned v ∧ ∃ m, w'' = w.drewN (k + m) :=
  h.mono fun _ _ ⟨a, b⟩ => ⟨a, n, b.symm⟩
end Go.Proofs.YtipdiddjhimdcaaGreatDoor

namespace Go.Proofs.YtipdiddjhimdcaaGreatDoor
open Go.RowKit

set_option maxRecDepth 100000 in
set_option maxHeartbeats 6400000 in
/-- no rune above 127 is one of these -/
theorem indexRuneQ_high (T : ByteArray) (hT : T = ⟨#[63, 44, 34]⟩) (r : Int) (h0 : 128 ≤ r) (h1 : r ≤ 2147483647) (w : World) :
    Calls Tryz.prog 155 #[.string T, .int .i32 r] w fun e w' => e = .returned (.int .i64 (-1)) ∧ Below w.heap.size w w' := by
  have hz : ¬ (r < 128) := by omega
  have h00 : (0 : Int) ≤ r := by omega
  by_cases hR : r = 65533
  · subst hR
    subst hT
    have n0 := fun ty => run_next_ascii (P := Tryz.prog) w ⟨#[63, 44, 34]⟩ 0 ty (by decide) (by decide)
    have n1 := fun ty => run_next_ascii (P := Tryz.prog) w ⟨#[63, 44, 34]⟩ 1 ty (by decide) (by decide)
    have n2 := fun ty => run_next_ascii (P := Tryz.prog) w ⟨#[63, 44, 34]⟩ 2 ty (by decide) (by decide)
    have n3 := run_next_end (P := Tryz.prog) w ⟨#[63, 44, 34]⟩ 3
    go_enter Tryz.func155, Tryz.ntmps155
    go_wp2
    go_loopg [5, 6] 3 (fun g _ _ wx => ∃ i : Nat, i + g = 3 ∧ wx = w.iter ⟨#[63, 44, 34]⟩ i)
    case atStart => exact ⟨0, rfl, rfl⟩
    case round =>
      obtain ⟨i, hig, rfl⟩ := hrel
      have hi : i = 0 ∨ i = 1 ∨ i = 2 ∨ i = 3 := by omega
      rcases hi with rfl | rfl | rfl | rfl
      · obtain rfl : gk = 3 := by omega
        go_wp2
        go_roundg 2
        case measure => omega
        case rel => exact ⟨1, rfl, rfl⟩
      · obtain rfl : gk = 2 := by omega
        go_wp2
        go_roundg 1
        case measure => omega
        case rel => exact ⟨2, rfl, rfl⟩
      · obtain rfl : gk = 1 := by omega
        go_wp2
        go_roundg 0
        case measure => omega
        case rel => exact ⟨3, rfl, rfl⟩
      · go_wp2
        go_ret
        exact ⟨rfl, (Below.refl _ _).alloc (Nat.le_refl _) _⟩
  · have hRb : (r == 65533) = false := by simpa using hR
    have HVR := Lib.hid (fun wx => validRune_c r wx)
    cases hv : Utf8.valid r
    · rw [hv] at HVR
      clear hv
      go_enter Tryz.func155, Tryz.ntmps155
      go_wp2_with (go_at_call 189; refine (HVR.out _).mono ?_; rintro e wx ⟨rfl, rfl⟩)
      go_ret
      exact ⟨rfl, Below.refl _ _⟩
    · obtain ⟨e1, e2, e3⟩ := encode_facts r hv h0
      rw [hv] at HVR
      clear hv
      obtain ⟨S, hS⟩ : ∃ S, Utf8.encode r = S := ⟨_, rfl⟩
      rw [hS] at e1 e2 e3
      by_cases h2 : S.size = 2
      · have p1 : 1 < S.size := by omega
        have zS : (S.size : Int) = 2 := by omega
        have hb : 128 ≤ (S[1]'p1).toNat := by
          have := e3 (by omega)
          simpa [h2] using this
        have z1 : 1 < T.size := by rw [hT]; decide
        have q1 : ((((T[1]'z1).toNat : Int)) == ((S[1]'p1).toNat : Int)) = false := by subst hT; show ((44 : Int) == _) = false; simp; omega
        have HI := Lib.hid (fun wx => show Calls Tryz.prog 58 #[.string (T.extract 2 T.size), .int .u8 ((S[1]'p1).toNat : Int)] wx fun e w' => e = .returned (.int .i64 (-1)) ∧ wx = w' from
          (Tryz.strings_IndexByte _ ((S[1]'p1).toNat : Int) wx).mono fun e w' ⟨a, b⟩ => ⟨a.trans (by
            rw [hT]
            have hn : ((S[1]'p1).toNat : Int).toNat.toUInt8 ≠ 34 := by
              simp
              intro e
              rw [e] at hb
              exact absurd hb (by decide)
            first
              | rfl
              | (show Ending.returned (Value.int .i64 (Lib.indexByte [34] _)) = _
                 rw [Lib.indexByte, if_neg (by intro h; apply hn; have h2 := eq_of_beq h; exact h2.symm)]; rfl)), b.symm⟩)
        have z2 : (T.size : Int) = 3 := by rw [hT]; rfl
        have w2 : IntKind.i64.wrap 2 = 2 := by decide
        have q3 : ((((T[1]'z1).toNat : Int)) != ((S[1]'p1).toNat : Int)) = true := by simpa using q1
        clear hT e1 e2 e3 h2 hb
        go_enter Tryz.func155, Tryz.ntmps155
        go_wp2_with (go_at_call 189; refine (HVR.out _).mono ?_; rintro e wx ⟨rfl, rfl⟩)
        go_wp2
        go_step3
        go_wp2
        go_loopg [9] 0 (fun _ x wr => x = .int .i64 1 ∧ wr = w)
        case atStart => exact ⟨rfl, rfl⟩
        case round =>
          obtain ⟨rfl, rfl⟩ := hrel
          go_wp2
          go_step3
          go_wp2
          go_quiet (fail)
          go_wp2
          go_quiet ((go_at_call 58; exact quiet_same2 (HI.out _)))
          go_wp2
          rw [Exit.noGoto_ret]
          simp only [Exit.inBlock, Exit.then, Exit.noGoto_ret]
          go_ret
          exact ⟨rfl, Drn.below ⟨_, rfl⟩⟩
      by_cases h3 : S.size = 3
      · have p1 : 2 < S.size := by omega
        have zS : (S.size : Int) = 3 := by omega
        have hb : 128 ≤ (S[2]'p1).toNat := by
          have := e3 (by omega)
          simpa [h3] using this
        have z1 : 2 < T.size := by rw [hT]; decide
        have q1 : ((((T[2]'z1).toNat : Int)) == ((S[2]'p1).toNat : Int)) = false := by subst hT; show ((34 : Int) == _) = false; simp; omega
        have HI := Lib.hid (fun wx => show Calls Tryz.prog 58 #[.string (T.extract 3 T.size), .int .u8 ((S[2]'p1).toNat : Int)] wx fun e w' => e = .returned (.int .i64 (-1)) ∧ wx = w' from
          (Tryz.strings_IndexByte _ ((S[2]'p1).toNat : Int) wx).mono fun e w' ⟨a, b⟩ => ⟨a.trans (by
            rw [hT]
            have hn : ((S[2]'p1).toNat : Int).toNat.toUInt8 ≠ 34 := by
              simp
              intro e
              rw [e] at hb
              exact absurd hb (by decide)
            first
              | rfl
              | (show Ending.returned (Value.int .i64 (Lib.indexByte [34] _)) = _
                 rw [Lib.indexByte, if_neg (by intro h; apply hn; have h2 := eq_of_beq h; exact h2.symm)]; rfl)), b.symm⟩)
        have z2 : (T.size : Int) = 3 := by rw [hT]; rfl
        have w2 : IntKind.i64.wrap 3 = 3 := by decide
        have q3 : ((((T[2]'z1).toNat : Int)) != ((S[2]'p1).toNat : Int)) = true := by simpa using q1
        clear hT e1 e2 e3 h3 hb
        go_enter Tryz.func155, Tryz.ntmps155
        go_wp2_with (go_at_call 189; refine (HVR.out _).mono ?_; rintro e wx ⟨rfl, rfl⟩)
        go_wp2
        go_step3
        go_wp2
        go_loopg [9] 0 (fun _ x wr => x = .int .i64 2 ∧ wr = w)
        case atStart => exact ⟨rfl, rfl⟩
        case round =>
          obtain ⟨rfl, rfl⟩ := hrel
          go_wp2
          go_step3
          go_wp2
          go_quiet (fail)
          go_wp2
          go_quiet ((go_at_call 58; exact quiet_same2 (HI.out _)))
          go_wp2
          rw [Exit.noGoto_ret]
          simp only [Exit.inBlock, Exit.then, Exit.noGoto_ret]
          go_ret
          exact ⟨rfl, Drn.below ⟨_, rfl⟩⟩
      have h4 : ¬ ((S.size : Int) - 1 < 3) := by omega
      have w1 : IntKind.i64.wrap ((S.size : Int) - 1) = (S.size : Int) - 1 := IntWalk.i64_in _ (by omega)
      clear e1 e2 e3 h2 h3
      have z2 : (T.size : Int) = 3 := by rw [hT]; rfl
      clear hT
      go_enter Tryz.func155, Tryz.ntmps155
      go_wp2_with (go_at_call 189; refine (HVR.out _).mono ?_; rintro e wx ⟨rfl, rfl⟩)
      go_wp2
      go_step3
      go_wp2
      go_loopg [9] 0 (fun _ x wr => x = .int .i64 ((S.size : Int) - 1) ∧ wr = w)
      case atStart => exact ⟨rfl, rfl⟩
      case round =>
        obtain ⟨rfl, rfl⟩ := hrel
        go_wp2
        rw [Exit.noGoto_ret]
        go_ret
        exact ⟨rfl, Below.refl _ _⟩

theorem barb_idx (c : UInt8) : decide ((0 : Int) ≤ Lib.indexByte [63, 44, 34] c) = barb c :=
  all_bytes (fun c => decide ((0 : Int) ≤ Lib.indexByte [63, 44, 34] c) = barb c) (by decide +kernel) c
theorem barb_high (c : UInt8) (h : 128 ≤ c.toNat) : barb c = false := by
  have := all_bytes (fun c => 128 ≤ c.toNat → barb c = false) (by decide +kernel) c
  exact this h
theorem anyQ_more (s : ByteArray) (i : Nat) (hi : i < s.size) (hp : ((us s).take i).any barb = false) (hb : barb s[i] = false) : ((us s).take (i + 1)).any barb = false := by
  rw [take_us s i hi, List.any_append, hp]; simp [hb]
theorem anyQ_hit (s : ByteArray) (i : Nat) (hi : i < s.size) (hb : barb s[i] = true) : (us s).any barb = true :=
  List.any_eq_true.2 ⟨_, by have := get_us s i hi; exact List.mem_of_getElem? this, hb⟩
theorem anyQ_high (s : ByteArray) (i : Nat) (hi : i < s.size) (ha : 128 ≤ (s[i]'hi).toNat) (hp : ((us s).take i).any barb = false) : ∀ n, n ≤ (Utf8.decode s i).2 → ((us s).take (i + n)).any barb = false
  | 0, _ => hp
  | n + 1, hn => by
    have ih := anyQ_high s i hi ha hp n (by omega)
    by_cases hj : i + n < s.size
    · exact anyQ_more s (i + n) hj ih (barb_high _ (decode_cont s i hi ha n (by omega) hj))
    · rw [take_all s _ (by omega)] at ih
      rw [take_all s _ (by omega)]; exact ih

set_option maxRecDepth 100000 in
set_option maxHeartbeats 6400000 in
theorem indexAnyQ_short (T : ByteArray) (hT : T = ⟨#[63, 44, 34]⟩) (s : ByteArray) (h8 : s.size ≤ 8) (w : World) :
    Calls Tryz.prog 102 #[.string s, .string T] w fun e w' => ∃ i, e = .returned (.int .i64 i) ∧ decide (0 ≤ i) = (us s).any barb ∧ Below w.heap.size w w' := by
  have HT := Lib.hid hT
  have hemp : T.toList.isEmpty = false := by rw [hT, isEmpty_us]; rfl
  have hn1 : ((T.size : Int) == 1) = false := by rw [hT]; rfl
  have h8z : decide ((8 : Int) < (s.size : Int)) = false := decide_eq_false (by omega)
  have HA := Lib.hid (fun (x : UInt8) (hx : x.toNat < 128) wx => show Calls Tryz.prog 155 #[.string T, .int .i32 x.toNat] wx fun e w' => e = .returned (.int .i64 (Lib.indexByte [63, 44, 34] x)) ∧ wx = w' from
    (Tryz.strings_IndexRune_ascii T x.toNat wx (by omega) (by omega)).mono fun e w' ⟨a, b⟩ => ⟨a.trans (by rw [hT]; simp), b.symm⟩)
  have HH := Lib.hid (fun r h0 h1 wx => indexRuneQ_high T hT r h0 h1 wx)
  clear hT
  go_enter Tryz.func102, Tryz.ntmps102
  go_wp2_with (go_at_call 156; refine (Tryz.strings_shouldUseASCIISet _ _).mono ?_; rintro e w' ⟨rfl, hw⟩; rw [hw, h8z])
  go_loopg [9, 10] s.size (fun g _ _ wx => ∃ i : Nat, s.size ≤ i + g ∧ wx.heap[w.heap.size]? = some (.stringIter s i) ∧ Below w.heap.size w wx ∧ ((us s).take i).any barb = false)
  case atStart => exact ⟨0, by omega, World.iter_heap _ _ _, (Below.refl _ _).alloc (Nat.le_refl _) _, rfl⟩
  case round =>
    obtain ⟨i, hig, hit, hB, hno⟩ := hrel
    have HN := Lib.hid hno
    have HIT := Lib.hid hit
    have HB := Lib.hid hB
    clear hno hB
    by_cases hi : i < s.size
    · cases gk with
      | zero => omega
      | succ g =>
        obtain ⟨x, hx⟩ : ∃ x : UInt8, s[i]'hi = x := ⟨_, rfl⟩
        by_cases hx128 : x.toNat < 128
        · have hnx := fun ty => Lib.run_next_ascii_at (P := Tryz.prog) wr w.heap.size s i ty hit hi (by rw [hx]; exact hx128)
          rw [hx] at hnx
          have HA' := Lib.hid (HA.out x hx128)
          have hbi := barb_idx x
          cases hin : barb x
          · have HB2 := Lib.hid (anyQ_more s i hi HN.out (by rw [hx]; exact hin))
            rw [hin] at hbi
            have hlt : ¬ ((0 : Int) ≤ Lib.indexByte [63, 44, 34] x) := of_decide_eq_false hbi
            obtain ⟨z, hz⟩ : ∃ z, z = Lib.indexByte [63, 44, 34] x := ⟨_, rfl⟩
            rw [← hz] at HA' hlt
            clear hbi hin hx hit hz
            go_wp2_with (go_at_call 155; refine (HA'.out _).mono ?_; rintro e w' ⟨rfl, rfl⟩)
            go_roundg g
            case measure => omega
            case rel => exact ⟨i + 1, by omega, Lib.iterAt_heap _ _ _ _ _ HIT.out, Lib.below_iterAt HB.out (Nat.le_refl _) _ _, HB2.out⟩
          · have HB2 := Lib.hid (anyQ_hit s i hi (by rw [hx]; exact hin))
            rw [hin] at hbi
            have hge : ((0 : Int) ≤ Lib.indexByte [63, 44, 34] x) := of_decide_eq_true hbi
            obtain ⟨z, hz⟩ : ∃ z, z = Lib.indexByte [63, 44, 34] x := ⟨_, rfl⟩
            rw [← hz] at HA' hge
            clear hbi hin hx hit hz
            go_wp2_with (go_at_call 155; refine (HA'.out _).mono ?_; rintro e w' ⟨rfl, rfl⟩)
            go_ret
            exact ⟨_, rfl, by rw [HB2.out]; exact decide_eq_true (by omega), Lib.below_iterAt HB.out (Nat.le_refl _) _ _⟩
        · have hnx := fun ty => Lib.run_next_any_at (P := Tryz.prog) wr w.heap.size s i ty hit hi
          have hr := decode_high s i hi (by rw [hx]; omega)
          have hr2 := decode_le s i
          have HB2 := Lib.hid (anyQ_high s i hi (by rw [hx]; omega) HN.out _ (Nat.le_refl _))
          obtain ⟨d, hd⟩ : ∃ d, d = Utf8.decode s i := ⟨_, rfl⟩
          rw [← hd] at hnx hr hr2 HB2
          obtain ⟨r, wd⟩ := d
          dsimp only at hnx hr hr2 HB2
          have HA' := Lib.hid (HH.out (r : Int) (by omega) (by omega))
          have hm1 : ¬ ((0 : Int) ≤ -1) := by decide
          have hw1 : 1 ≤ wd := hr.2
          clear hd hx hit hx128 hr hr2
          go_wp2_with (go_at_call 155; refine (HA'.out _).mono ?_; rintro e w' ⟨rfl, hC⟩)
          go_roundg g
          case measure => omega
          case rel =>
            refine ⟨i + wd, by omega, ?_, ?_, HB2.out⟩
            · rw [hC.block _ (by rw [Lib.iterAt_size]; exact (Array.getElem?_eq_some_iff.1 HIT.out).1)]
              exact Lib.iterAt_heap _ _ _ _ _ HIT.out
            · have h1 := Lib.below_iterAt HB.out (Nat.le_refl _) s (i + wd)
              exact h1.trans (hC.mono h1.size)
    · have hnx := fun ty => Lib.run_next_end_at (P := Tryz.prog) wr w.heap.size s i ty hit hi
      have HB2 := Lib.hid (show (us s).any barb = false by rw [← take_all s i (by omega)]; exact HN.out)
      clear hit
      go_wp2
      go_ret
      exact ⟨_, rfl, by rw [HB2.out]; rfl, HB.out⟩

theorem indexAnyQ_any (l : List UInt8) : decide ((0 : Int) ≤ Lib.indexAny l [63, 44, 34]) = l.any barb := by
  induction l with
  | nil => rfl
  | cons c r ih =>
    have hb := all_bytes (fun c => ([63, 44, 34] : List UInt8).contains c = barb c) (by decide +kernel) c
    have hg := Lib.indexAny_ge [63, 44, 34] r
    rw [Lib.indexAny, hb, List.any_cons, ← ih]
    cases barb c
    · simp only [Bool.false_or, Bool.false_eq_true, if_false]
      by_cases h : Lib.indexAny r [63, 44, 34] = -1
      · rw [h]; rfl
      · rw [if_neg (by simpa using h)]
        rw [decide_eq_decide]; omega
    · rfl

theorem indexAnyQ_c (T : ByteArray) (hT : T = ⟨#[63, 44, 34]⟩) (s : ByteArray) (hs : s.size < 4294967281) (w : World) :
    Calls Tryz.prog 102 #[.string s, .string T] w fun e w' => ∃ i, e = .returned (.int .i64 i) ∧ decide (0 ≤ i) = (us s).any barb ∧ Below w.heap.size w w' := by
  by_cases h8 : s.size ≤ 8
  · exact indexAnyQ_short T hT s h8 w
  · subst hT
    refine (Tryz.strings_IndexAny_long (zero_of_info (show (Tryz.prog.info? 157).map (fun i => (i.zero, i.size)) = some (some (.agg (Array.replicate 256 (.bool false))), 256) by kernel_rfl)).1 s ⟨#[63, 44, 34]⟩ w (by decide) (by omega) hs (by decide) ?_).mono ?_
    · intro j b hj
      have : b ∈ ([63, 44, 34] : List UInt8) := List.mem_of_getElem? hj
      simp only [List.mem_cons, List.not_mem_nil, or_false] at this
      rcases this with rfl | rfl | rfl <;> decide
    · rintro e w' ⟨rfl, rfl⟩
      exact ⟨_, rfl, indexAnyQ_any _, ((Below.refl _ _).alloc (Nat.le_refl _) _).alloc (by simp) _⟩

theorem containsAnyQ_c (s : ByteArray) (hs : s.size < 4294967281) (w : World) :
    Calls Tryz.prog 57 #[.string s, .string ⟨#[63, 44, 34]⟩] w fun e w' => e = .returned (.bool ((us s).any barb)) ∧ Below w.heap.size w w' := by
  have H := Lib.hid (indexAnyQ_c _ rfl s hs w)
  go_enter Tryz.func57, Tryz.ntmps57
  go_wp2_with (go_at_call 102; refine H.out.mono ?_; rintro e wx ⟨i, rfl, hi, hB⟩; have HI := Lib.hid hi; clear hi)
  go_ret
  exact ⟨ret_bool HI.out, hB⟩

end Go.Proofs.YtipdiddjhimdcaaGreatDoor

