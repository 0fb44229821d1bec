/-
  Hosts: what they are, in plain words; uri.six.
-/
import Derived.Test.YteiafgoigfehgaaDoorLib
import Derived.Test.YteiafgoigfehgaaDoorCut
namespace Go.Proofs.YteiafgoigfehgaaDoor
open Go.RowKit

def sixb (c : UInt8) : Bool := (c.toNat == 58) || (c.toNat == 46) || testc 4 c
def inner (l : List UInt8) (k : Nat) : List UInt8 := (l.take k).drop 1
def colons (l : List UInt8) : Nat := (l.filter fun c => c.toNat == 58).length
/-- an address of IPv6 in brackets, as far as its signs go (the first bracket apart) -/
def sixS (l : List UInt8) : Bool := decide (4 ≤ l.length) && (l.getLast? == some 93) && (inner l (l.length - 1)).all sixb && decide (2 ≤ colons (inner l (l.length - 1)))
def label (p : List UInt8) : Bool := decide (1 ≤ p.length) && allc 64 p && !(p.head? == some 45) && !(p.getLast? == some 45)
def hostS (l : List UInt8) : Bool := decide (1 ≤ l.length) && decide (l.length ≤ 64) && (lowr l == l) && (if l.head? == some 91 then sixS l else (splitc 46 l).all label)

theorem inner_one (l : List UInt8) : inner l 1 = [] := by unfold inner; cases l <;> rfl
theorem inner_step (s : ByteArray) (k : Nat) (h0 : 1 ≤ k) (h : k < s.size) : inner (us s) (k + 1) = inner (us s) k ++ [s[k]] := by
  unfold inner
  rw [take_us s k h, List.drop_append_of_le_length]
  rw [List.length_take, length_us]; omega
theorem all_testc (a b : Int) (h : ∀ n : Fin 256, testc a (UInt8.ofNat n.val) = testc b (UInt8.ofNat n.val)) (l : List UInt8) : allc a l = allc b l := by
  unfold allc
  have : testc a = testc b := funext fun c => all_bytes (fun c => testc a c = testc b c) h c
  rw [this]
theorem allc_67 (l : List UInt8) : allc 67 l = allc 64 l := all_testc 67 64 (by decide +kernel) l

theorem sixb_colon (c : UInt8) (h : c.toNat = 58) : sixb c = true := by unfold sixb; simp [h]
theorem sixb_dot (c : UInt8) (h : c.toNat = 46) : sixb c = true := by unfold sixb; simp [h]
theorem sixb_hex (c : UInt8) (h : testc 4 c = true) : sixb c = true := by unfold sixb; simp [h]
theorem sixb_no (c : UInt8) (h1 : ¬ c.toNat = 58) (h2 : ¬ c.toNat = 46) (h3 : testc 4 c = false) : sixb c = false := by unfold sixb; simp [h1, h2, h3]
theorem inner_bad (s : ByteArray) (k : Nat) (h0 : 1 ≤ k) (h : k + 1 < s.size) (hb : sixb s[k] = false) : (inner (us s) (s.size - 1)).all sixb = false := by
  rw [← Bool.not_eq_true, List.all_eq_true]
  intro hall
  have hm : s[k] ∈ inner (us s) (s.size - 1) := by
    unfold inner
    refine List.mem_of_getElem? (i := k - 1) ?_
    rw [List.getElem?_drop, List.getElem?_take_of_lt (by omega), show 1 + (k - 1) = k from by omega, get_us s k (by omega)]
  have := hall _ hm
  rw [hb] at this; cases this
theorem inner_all (s : ByteArray) (k : Nat) (h0 : 1 ≤ k) (h : k < s.size) (hb : sixb s[k] = true) (hp : (inner (us s) k).all sixb = true) : (inner (us s) (k + 1)).all sixb = true := by
  rw [inner_step s k h0 h, List.all_append, hp]; simp [hb]
theorem colons_yes (s : ByteArray) (k : Nat) (h0 : 1 ≤ k) (h : k < s.size) (hb : s[k].toNat = 58) : colons (inner (us s) (k + 1)) = colons (inner (us s) k) + 1 := by
  rw [inner_step s k h0 h]; unfold colons; simp [hb]
theorem colons_no (s : ByteArray) (k : Nat) (h0 : 1 ≤ k) (h : k < s.size) (hb : ¬ s[k].toNat = 58) : colons (inner (us s) (k + 1)) = colons (inner (us s) k) := by
  rw [inner_step s k h0 h]; unfold colons; simp [hb]
theorem colons_le (l : List UInt8) (k : Nat) : colons (inner l k) ≤ l.length := by
  unfold colons inner
  refine Nat.le_trans (List.length_filter_le _ _) ?_
  rw [List.length_drop, List.length_take]; omega
theorem sixS_short (l : List UInt8) (h : l.length < 4) : sixS l = false := by unfold sixS; rw [show decide (4 ≤ l.length) = false from decide_eq_false (by omega)]; simp
theorem last_us (s : ByteArray) (h : 0 < s.size) : (us s).getLast? = some s[s.size - 1] := by
  rw [List.getLast?_eq_getElem?, length_us, get_us s _ (by omega)]
theorem last_is (s : ByteArray) (h : 0 < s.size) (n : Nat) (hn : n < 256) : ((us s).getLast? == some (UInt8.ofNat n)) = decide (s[s.size - 1].toNat = n) := by
  rw [last_us s h, Bool.eq_iff_iff, beq_iff_eq, decide_eq_true_iff]
  constructor
  · intro e; injection e with e; rw [e]; simp; omega
  · intro e; rw [← e]; simp
theorem head_is (s : ByteArray) (h : 0 < s.size) (n : Nat) (hn : n < 256) : ((us s).head? == some (UInt8.ofNat n)) = decide (s[0].toNat = n) := by
  rw [List.head?_eq_getElem?, get_us s 0 h, Bool.eq_iff_iff, beq_iff_eq, decide_eq_true_iff]
  constructor
  · intro e; injection e with e; rw [e]; simp; omega
  · intro e; rw [← e]; simp
theorem sixS_last (s : ByteArray) (h : 0 < s.size) (hl : ¬ s[s.size - 1].toNat = 93) : sixS (us s) = false := by
  unfold sixS
  have : ((us s).getLast? == some 93) = false := (last_is s h 93 (by decide)).trans (decide_eq_false hl)
  rw [this]; simp
theorem sixS_bad (s : ByteArray) (hb : (inner (us s) (s.size - 1)).all sixb = false) : sixS (us s) = false := by
  unfold sixS; rw [length_us, hb]; simp
theorem sixS_end (s : ByteArray) (h : 4 ≤ s.size) (hl : s[s.size - 1].toNat = 93) (hb : (inner (us s) (s.size - 1)).all sixb = true) : sixS (us s) = decide (2 ≤ colons (inner (us s) (s.size - 1))) := by
  unfold sixS
  have h1 : ((us s).getLast? == some 93) = true := (last_is s (by omega) 93 (by decide)).trans (decide_eq_true hl)
  rw [length_us, h1, hb]; simp [h]

set_option maxHeartbeats 800000 in
theorem six_c (s : ByteArray) (hs : s.size ≤ 4294967280) (w : World) :
    Calls Tryd.prog 102 #[.string s] w fun e w' => e = .returned (.bool (sixS (us s))) ∧ w = w' := by
  by_cases h4 : s.size < 4
  · have HN := Lib.hid (sixS_short (us s) (by rw [length_us]; exact h4))
    go_enter Tryd.func102, Tryd.ntmps102
    go_wp2
    go_ret
    exact ⟨ret_bool (by rw [HN.out]), rfl⟩
  have q1 : s.size - 1 < s.size := by omega
  have q2 : (0 : Int) ≤ (s.size : Int) - 1 := by omega
  have q3 : ((s.size : Int) - 1).toNat = s.size - 1 := by omega
  by_cases hl : s[s.size - 1].toNat = 93
  · have t1 : ((s[s.size - 1].toNat : Int) != 93) = false := by simp [hl]
    have HE := Lib.hid (sixS_end s (by omega) hl)
    clear hl
    go_enter Tryd.func102, Tryd.ntmps102
    go_wp2
    go_loop [3, 4] (fun n i => ∃ k : Nat, 1 ≤ k ∧ k + 1 ≤ s.size ∧ i = .int .i64 k ∧ n = .int .i64 (colons (inner (us s) k) : Nat) ∧ (inner (us s) k).all sixb = true) (fun _ i => s.size - (intOf i).toNat)
    case atStart => exact ⟨1, Nat.le_refl _, by omega, rfl, by rw [inner_one]; rfl, by rw [inner_one]; rfl⟩
    case round =>
      obtain ⟨k, hk0, hk, rfl, rfl, hb⟩ := hrel
      have HB := Lib.hid hb; clear hb
      have hcl : colons (inner (us s) k) ≤ s.size := by rw [← length_us]; exact colons_le _ _
      by_cases hlt : k + 1 < s.size
      · by_cases c1 : s[k].toNat = 58
        · have a1 : ((s[k].toNat : Int) == 58) = true := by simp [c1]
          have HA := Lib.hid (inner_all s k hk0 (by omega) (sixb_colon _ c1) HB.out)
          have HC := Lib.hid (colons_yes s k hk0 (by omega) c1)
          clear c1
          go_wp2
          go_round
          case rel => exact ⟨k + 1, by omega, by omega, by go_num, by rw [HC.out]; go_num, HA.out⟩
          case measure => simp [intOf]; omega
        · have a1 : ((s[k].toNat : Int) == 58) = false := by simp; omega
          have HC := Lib.hid (colons_no s k hk0 (by omega) c1)
          by_cases c2 : s[k].toNat = 46
          · have a2 : ((s[k].toNat : Int) != 46) = false := by simp [c2]
            have HA := Lib.hid (inner_all s k hk0 (by omega) (sixb_dot _ c2) HB.out)
            clear c1 c2
            go_wp2
            go_round
            case rel => exact ⟨k + 1, by omega, by omega, by go_num, by rw [HC.out], HA.out⟩
            case measure => simp [intOf]; omega
          · have a2 : ((s[k].toNat : Int) != 46) = true := by simp; omega
            by_cases ht : (bits BinOp.and IntKind.i64 (cls s[k]) 4 == 0) = true
            · have HN := Lib.hid (sixS_bad s (inner_bad s k hk0 hlt (sixb_no _ c1 c2 (testc_t 4 _ ht))))
              clear c1 c2
              go_wp2_with (go_at_call 59; refine (class_c _ _).mono ?_; rintro e w' ⟨rfl, rfl⟩)
              go_ret
              exact ⟨ret_bool (by rw [HN.out]), rfl⟩
            · have ht' : (bits BinOp.and IntKind.i64 (cls s[k]) 4 == 0) = false := by simpa using ht
              clear ht
              have HA := Lib.hid (inner_all s k hk0 (by omega) (sixb_hex _ (testc_f 4 _ ht')) HB.out)
              clear c1 c2
              go_wp2_with (go_at_call 59; refine (class_c _ _).mono ?_; rintro e w' ⟨rfl, rfl⟩)
              go_round
              case rel => exact ⟨k + 1, by omega, by omega, by go_num, by rw [HC.out], HA.out⟩
              case measure => simp [intOf]; omega
      · obtain rfl : k = s.size - 1 := by omega
        have HX := Lib.hid (HE.out HB.out)
        go_wp2
        go_ret
        exact ⟨ret_bool (by rw [HX.out]; simp; omega), rfl⟩
  · have t1 : ((s[s.size - 1].toNat : Int) != 93) = true := by simp; omega
    have HN := Lib.hid (sixS_last s (by omega) hl)
    clear hl
    go_enter Tryd.func102, Tryd.ntmps102
    go_wp2
    go_ret
    exact ⟨ret_bool (by rw [HN.out]), rfl⟩

end Go.Proofs.YteiafgoigfehgaaDoor
