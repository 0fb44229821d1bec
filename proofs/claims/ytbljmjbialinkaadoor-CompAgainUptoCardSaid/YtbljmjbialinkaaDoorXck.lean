/-
  xml.Check at one element of the name 'a'; pidf.text, pidf.id, pidf.tuple.
-/
import Derived.Test.YtbljmjbialinkaaDoorXml
namespace Go.Proofs.YtbljmjbialinkaaDoor
set_option linter.unusedSimpArgs false
set_option linter.unusedVariables false
open Go.RowKit Go.Sort

theorem blk_q4 {w : World} {g : Nat} {t : TypeId} {a b c d : Value} (h : Blk w g t #[a, b, c, d]) :
    w.cell? ⟨g, 0, none⟩ = some a ∧ w.cell? ⟨g, 1, none⟩ = some b ∧ w.cell? ⟨g, 2, none⟩ = some c ∧ w.cell? ⟨g, 3, none⟩ = some d := ⟨boxedCell h 0, boxedCell h 1, boxedCell h 2, boxedCell h 3⟩
def nodeOK (l : List UInt8) : Bool := l.all sgn && (Lib.trimS l k4 == l)
theorem regrownX {w wq : World} (h : ∃ p : Regrown, wq = grow (redrawn w p.d) p.os) : Below w.heap.size w wq := by
  obtain ⟨p, rfl⟩ := h
  exact below_regrown w p.d p.os

set_option maxRecDepth 100000 in
set_option maxHeartbeats 6400000 in
theorem checkN_c (b : Nat) (s : ByteArray) (hs : s.size ≤ 4294967280) (w : World) (hb : Blk w b 64 #[.int .i64 0, .string ⟨#[97]⟩, .slice none 0 0, .string s]) (hbl : b < w.heap.size) :
    Calls Tryd.prog 23 #[.slice (some ⟨b, 0, none⟩) 1 1] w fun e w' => e = .returned (.int .i64 (if nodeOK (us s) = true then 0 else 130)) ∧ Below w.heap.size w w' := by
  have HN := Lib.hid (fun wx => nameA_c wx)
  have HA := Lib.hid (fun wx => attrs0_c wx)
  have HS := Lib.hid (fun wx => signs_c s hs wx)
  have HT := Lib.hid (fun wx => trim4_c s hs wx)
  have hok : nodeOK (us s) = ((us s).all sgn && (Lib.trimS (us s) k4 == us s)) := rfl
  obtain ⟨OK, hOK⟩ : ∃ x, x = nodeOK (us s) := ⟨_, rfl⟩
  rw [← hOK] at hok ⊢
  obtain ⟨A, hA⟩ : ∃ x, x = (us s).all sgn := ⟨_, rfl⟩
  rw [← hA] at hok HS
  obtain ⟨R, hR⟩ : ∃ x, x = bs (Lib.trimS (us s) k4) := ⟨_, rfl⟩
  have hre : (R.toList == s.toList) = (Lib.trimS (us s) k4 == us s) := by rw [hR, toList_us, us_bs, toList_us]
  rw [← hR] at HT
  obtain ⟨B, hB⟩ : ∃ x, x = (Lib.trimS (us s) k4 == us s) := ⟨_, rfl⟩
  rw [← hB] at hok hre
  clear hOK hA hR hB
  have HBL := Lib.hid hb
  obtain ⟨EC, hEC⟩ : ∃ x : Int, x = if OK = true then 0 else 130 := ⟨_, rfl⟩
  rw [← hEC]
  have hcs : (A = false ∧ EC = 130) ∨ (A = true ∧ (R.toList == s.toList) = false ∧ EC = 130) ∨ (A = true ∧ (R.toList == s.toList) = true ∧ EC = 0) := by
    rw [hEC, hok, hre]
    cases A <;> cases B <;> simp
  clear hEC hok hre
  rcases hcs with ⟨k1, hz⟩ | ⟨k1, k2, hz⟩ | ⟨k1, k2, hz⟩
  all_goals
    rw [k1] at HS
    clear k1
    have HZ := Lib.hid hz
    clear hz
    go_enter Tryd.func23, Tryd.ntmps23
    go_wp2
    go_loopw [15] (fun i wr => (i = .int .i64 0 ∧ wr = w) ∨ (i = .int .i64 1 ∧ EC = 0 ∧ Below w.heap.size w wr)) (fun i _ => 1 - (intOf i).toNat)
    case atStart => exact .inl ⟨rfl, rfl⟩
    case round =>
      rcases hrel with ⟨rfl, rfl⟩ | ⟨rfl, hz, hB⟩
      · obtain ⟨x0, x1, x2, x3⟩ := blk_q4 hb
        have hB0 : Below wr.heap.size wr (wr.alloc (.cells #[.int .i64 0, .string ⟨#[97]⟩, .slice none 0 0, .string s] 64)) := (Below.refl _ _).alloc (Nat.le_refl _) _
        have bm0 := Blk.new wr 64 #[.int .i64 0, .string ⟨#[97]⟩, .slice none 0 0, .string s]
        obtain ⟨w0, hw0⟩ : ∃ w0, w0 = wr.alloc (.cells #[.int .i64 0, .string ⟨#[97]⟩, .slice none 0 0, .string s] 64) := ⟨_, rfl⟩
        rw [← hw0] at hB0 bm0
        have HW0 := Lib.hid hw0
        clear hw0 hb
        go_upto_region 7 with fail
        go_quiet (fail)
        rw [← HW0.out]
        have hD : Below w0.heap.size w0 (w0.drewN nq) := Drn.below ⟨_, rfl⟩
        obtain ⟨wd, hwd⟩ : ∃ wd, wd = w0.drewN nq := ⟨_, rfl⟩
        rw [← hwd] at hD ⊢
        clear hwd x0 x1 x2 x3
        have hBd := hB0.trans (hD.mono hB0.size)
        have bmd := bm0.call hD
        clear hD bm0
        obtain ⟨x0, x1, x2, x3⟩ := blk_q4 bmd
        go_upto_region 13 with (first | (go_at_call 35; refine (HN.out _).mono ?_; rintro e w' ⟨rfl, rfl⟩) | (go_at_call 36; refine (HA.out _).mono ?_; rintro e w1 ⟨rfl, hC1⟩; have bm1 := bmd.call hC1; have hB1 := hBd.trans (hC1.mono hBd.size); clear x0 x1 x2 x3; obtain ⟨x0, x1, x2, x3⟩ := blk_q4 bm1) | (go_at_call 37; refine (HS.out _).mono ?_; rintro e w' ⟨rfl, rfl⟩))
        first
          | (go_ret; exact ⟨by rw [HZ.out]; rfl, hB1⟩)
          | (have c1 := fun dd os => Calls.regrown_of (HT.out (grow (redrawn w1 dd) os))
             have p3 := cell_regrown x3
             refine wp_region_quiet_below (by kernel_rfl) (by kernel_rfl) ?_
             repeat (first | go_big_quiet_step (with_reducible exact c1 _ _) | quiet_step (with_reducible exact c1 _ _))
             refine wpQuiet_nil ?_
             intro wq hw'
             have hC2 := regrownX hw'
             clear hw' c1 p3 x0 x1 x2 x3
             have bm2 := bm1.call hC2
             have hB2 := hB1.trans (hC2.mono hB1.size)
             clear hC2
             obtain ⟨x0, x1, x2, x3⟩ := blk_q4 bm2
             go_upto_region 15 with fail
             first
               | (go_ret; exact ⟨by rw [HZ.out]; rfl, hB2⟩)
               | (go_quiet (fail)
                  go_wp2
                  go_roundw
                  case rel => exact .inr ⟨rfl, HZ.out, hB2.trans (Drn.below ⟨_, rfl⟩)⟩
                  case measure => simp [intOf]))
      · have HZ2 := Lib.hid hz
        clear hz
        go_wp2
        go_ret
        first
          | exact absurd (HZ.out.symm.trans HZ2.out) (by decide)
          | (simp only [HZ2.out]; exact ⟨rfl, hB⟩)
          | exact ⟨rfl, hB⟩

end Go.Proofs.YtbljmjbialinkaaDoor
