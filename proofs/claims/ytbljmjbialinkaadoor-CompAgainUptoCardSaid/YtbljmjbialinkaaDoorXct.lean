/-
  pidf.text, pidf.id, pidf.tuple.
-/
import Derived.Test.YtbljmjbialinkaaDoorXck
import Derived.Test.YtbljmjbialinkaaDoorWhl
namespace Go.Proofs.YtbljmjbialinkaaDoor
set_option linter.unusedSimpArgs false
set_option linter.unusedVariables false
open Go.RowKit Go.Sort

theorem textOK_of (s : ByteArray) : textOK (us s) = (decide (s.size ≤ 128) && nodeOK (us s)) := by
  unfold textOK nodeOK
  rw [length_us, Bool.and_assoc]
set_option maxRecDepth 100000 in
set_option maxHeartbeats 1600000 in
theorem pText_c (s : ByteArray) (hs : s.size ≤ 4294967280) (w : World) :
    Calls Tryd.prog 18 #[.string s, .int .i64 128] w fun e w' => e = .returned (.bool (textOK (us s))) ∧ Below w.heap.size w w' := by
  have hok := textOK_of s
  obtain ⟨T, hT⟩ : ∃ x, x = textOK (us s) := ⟨_, rfl⟩
  rw [← hT] at hok ⊢
  have HC := Lib.hid (fun wx hx h2 => checkN_c w.heap.size s hs wx hx h2)
  obtain ⟨K, hK⟩ : ∃ x, x = nodeOK (us s) := ⟨_, rfl⟩
  rw [← hK] at hok HC
  clear hT hK
  have hB0 : Below w.heap.size w (w.alloc (.cells #[.int .i64 0, .string ⟨#[97]⟩, .slice none 0 0, .string s] 64)) := (Below.refl _ _).alloc (Nat.le_refl _) _
  have bm0 := Blk.new w 64 #[.int .i64 0, .string ⟨#[97]⟩, .slice none 0 0, .string s]
  have hl0 : w.heap.size < (w.alloc (.cells #[.int .i64 0, .string ⟨#[97]⟩, .slice none 0 0, .string s] 64)).heap.size := by rw [World.size_alloc]; omega
  have HB0 := Lib.hid hB0
  have BM0 := Lib.hid bm0
  have HL0 := Lib.hid hl0
  clear hB0 bm0 hl0
  by_cases h1 : s.size ≤ 128
  · rw [decide_eq_true h1, Bool.true_and] at hok
    subst hok
    have h1' : (s.size : Int) ≤ 128 := by omega
    cases T
    all_goals
      go_enter Tryd.func18, Tryd.ntmps18
      go_wp2_with (go_at_call 23; refine (HC.out _ BM0.out HL0.out).mono ?_; rintro e w1 ⟨rfl, hC1⟩)
      go_ret
      exact ⟨rfl, HB0.out.trans (hC1.mono HB0.out.size)⟩
  · rw [decide_eq_false h1, Bool.false_and] at hok
    subst hok
    have h1' : ¬ (s.size : Int) ≤ 128 := by omega
    go_enter Tryd.func18, Tryd.ntmps18
    go_wp2
    go_ret
    exact ⟨rfl, HB0.out⟩

theorem idOK_of (s : ByteArray) : idOK (us s) = (!(decide (s.size = 0)) && decide (s.size ≤ 64) && (us s).all idb) := by
  unfold idOK
  rw [length_us]
  congr 2
  by_cases h : s.size = 0
  · rw [eq_empty h]; rfl
  · rw [decide_eq_false h]
    have : us s ≠ [] := by intro e; exact h (by rw [← length_us, e]; rfl)
    simp [this]
set_option maxRecDepth 100000 in
set_option maxHeartbeats 3200000 in
theorem id_c (s : ByteArray) (hs : s.size ≤ 4294967280) (w : World) :
    Calls Tryd.prog 22 #[.string s] w fun e w' => e = .returned (.bool (idOK (us s))) ∧ Below w.heap.size w w' := by
  have hok := idOK_of s
  obtain ⟨T, hT⟩ : ∃ x, x = idOK (us s) := ⟨_, rfl⟩
  rw [← hT] at hok ⊢
  clear hT
  by_cases hz : s.size = 0
  · obtain rfl := eq_empty hz
    have HE := Lib.hid (show T = false from hok)
    clear hok hz
    go_enter Tryd.func22, Tryd.ntmps22
    go_wp2
    go_ret
    exact ⟨ret_bool HE.out.symm, Below.refl _ _⟩
  have e1 := isEmpty_f hz
  have e2 := ne_empty hz
  rw [decide_eq_false hz] at hok
  by_cases hl : s.size ≤ 64
  case neg =>
    rw [decide_eq_false hl] at hok
    have HE := Lib.hid (show T = false from hok)
    have hl' : (64 : Int) < s.size := by omega
    clear hok
    go_enter Tryd.func22, Tryd.ntmps22
    go_wp2
    go_ret
    exact ⟨ret_bool HE.out.symm, Below.refl _ _⟩
  rw [decide_eq_true hl] at hok
  have HE := Lib.hid (show T = (us s).all idb from hok)
  have hl' : ¬ (64 : Int) < s.size := by omega
  clear hok
  go_enter Tryd.func22, Tryd.ntmps22
  go_wp2
  go_loopw [4] (fun _ wr => ∃ pos : Nat, pos ≤ s.size ∧ wr = w.iter s pos ∧ Hid (((us s).take pos).all idb = true)) (fun _ wr => s.size - wr.iterPos w.heap.size)
  case atStart => exact ⟨0, Nat.zero_le _, rfl, Lib.hid rfl⟩
  case round =>
    obtain ⟨pos, hk, rfl, HB⟩ := hrel
    have HI := Lib.hid (show Below w.heap.size w (w.iter s pos) from (Below.refl _ _).alloc (Nat.le_refl _) _)
    by_cases hp : pos < s.size
    · by_cases ha : (s[pos]'hp).toNat < 128
      · have hnx : ∀ ty, (Instr.next (.pointer (some ⟨w.heap.size, 0, none⟩)) true ty).run Tryd.prog (w.iter s pos) = _ := fun ty => run_next_ascii w s pos ty hp ha
        have hbb : idb s[pos] = (!decide (((s[pos]'hp).toNat : Int) ≤ 32) && !decide ((127 : Int) ≤ ((s[pos]'hp).toNat : Int))) := by
          unfold idb
          rw [Bool.eq_iff_iff]
          simp only [Bool.and_eq_true, decide_eq_true_eq, Bool.not_eq_true', decide_eq_false_iff_not]
          omega
        have HF := Lib.hid (fun h => HE.out.trans (all_badX idb s pos hp h))
        have HT := Lib.hid (fun h => all_moreX idb s pos hp h HB.out)
        by_cases c1 : ((s[pos]'hp).toNat : Int) ≤ 32
        · have HN := Lib.hid (HF.out (by rw [hbb, decide_eq_true c1]; rfl))
          clear hbb
          go_wp2
          go_ret
          exact ⟨ret_bool HN.out.symm, (Below.refl _ _).alloc (Nat.le_refl _) _⟩
        · by_cases c2 : (127 : Int) ≤ ((s[pos]'hp).toNat : Int)
          · have HN := Lib.hid (HF.out (by rw [hbb, decide_eq_true c2]; simp))
            clear hbb
            go_wp2
            go_ret
            exact ⟨ret_bool HN.out.symm, (Below.refl _ _).alloc (Nat.le_refl _) _⟩
          · have HN := Lib.hid (HT.out (by rw [hbb, decide_eq_false c1, decide_eq_false c2]; rfl))
            clear hbb
            go_wp2
            go_roundw
            case rel => exact ⟨pos + 1, by omega, rfl, HN⟩
            case measure => simp; omega
      · have hd := decode_high s pos hp (by omega)
        have hnx : ∀ ty, (Instr.next (.pointer (some ⟨w.heap.size, 0, none⟩)) true ty).run Tryd.prog (w.iter s pos) = _ := fun ty => run_next_any w s pos ty hp
        have HN := Lib.hid (HE.out.trans (all_badX idb s pos hp (by unfold idb; rw [decide_eq_false (show ¬ (s[pos]'hp).toNat ≤ 126 by omega)]; simp)))
        obtain ⟨D, hD⟩ : ∃ D, D = (Utf8.decode s pos).1 := ⟨_, rfl⟩
        rw [← hD] at hd
        have c1 : ¬ D ≤ 32 := by omega
        have c2 : 127 ≤ D := by omega
        simp only [← hD] at hnx
        clear hD hd ha
        go_wp2
        go_ret
        exact ⟨ret_bool HN.out.symm, (Below.refl _ _).alloc (Nat.le_refl _) _⟩
    · have hnx : ∀ ty, (Instr.next (.pointer (some ⟨w.heap.size, 0, none⟩)) true ty).run Tryd.prog (w.iter s pos) = _ := fun ty => run_next_end w s pos ty hp
      have HN := Lib.hid (HE.out.trans (all_wholeX idb s pos (by omega) HB.out))
      go_wp2
      go_ret
      exact ⟨ret_bool HN.out.symm, HI.out⟩

theorem blk_f5T {w : World} {g : Nat} {t : TypeId} {a b c d e : Value} (h : Blk w g t #[a, b, c, d, e]) :
    w.cell? ⟨g, 0, none⟩ = some a ∧ w.cell? ⟨g, 1, none⟩ = some b ∧ w.cell? ⟨g, 2, none⟩ = some c ∧ w.cell? ⟨g, 3, none⟩ = some d ∧ w.cell? ⟨g, 4, none⟩ = some e :=
  ⟨boxedCell h 0, boxedCell h 1, boxedCell h 2, boxedCell h 3, boxedCell h 4⟩
theorem tupOK_cases (t : Tup) : (idOK t.id = false ∧ tupOK t = false) ∨ (idOK t.id = true ∧ textOK t.con = false ∧ tupOK t = false) ∨ (idOK t.id = true ∧ textOK t.con = true ∧ textOK t.note = false ∧ tupOK t = false) ∨
    (idOK t.id = true ∧ textOK t.con = true ∧ textOK t.note = true ∧ t.prio < -1 ∧ tupOK t = false) ∨ (idOK t.id = true ∧ textOK t.con = true ∧ textOK t.note = true ∧ -1 ≤ t.prio ∧ ¬ t.prio ≤ 1000 ∧ tupOK t = false) ∨
    (idOK t.id = true ∧ textOK t.con = true ∧ textOK t.note = true ∧ -1 ≤ t.prio ∧ t.prio ≤ 1000 ∧ t.con ≠ [] ∧ tupOK t = true) ∨
    (idOK t.id = true ∧ textOK t.con = true ∧ textOK t.note = true ∧ -1 ≤ t.prio ∧ t.prio ≤ 1000 ∧ t.con = [] ∧ tupOK t = (t.prio == -1)) := by
  unfold tupOK
  cases idOK t.id <;> cases textOK t.con <;> cases textOK t.note <;> simp
  by_cases h1 : -1 ≤ t.prio <;> by_cases h2 : t.prio ≤ 1000 <;> by_cases h3 : t.con = [] <;> simp [h1, h2, h3] <;> omega

end Go.Proofs.YtbljmjbialinkaaDoor
