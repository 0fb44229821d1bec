/-
  Packed: XAds, XAng, XJoi, XDsp, XRdi, XAck.
-/
import Derived.Test.YtipdiddjhimdcaaGreatDoorB06
import Derived.Test.YtipdiddjhimdcaaGreatDoorB10
import Derived.Test.YtipdiddjhimdcaaGreatDoorB03
import Derived.Test.YtipdiddjhimdcaaGreatDoorShelf
import Derived.Laws.RangeAny
import Derived.Lib.FieldsP
import Derived.Deep.LoopGhost
import Derived.Test.YtipdiddjhimdcaaGreatDoorB07
namespace Go.Proofs.YtipdiddjhimdcaaGreatDoor

structure Adr where
  disp : List UInt8
  uri : Uri
  ps : List Prm
deriving DecidableEq
def adr0 : Adr := ⟨[], uri0, []⟩
def nTag : List UInt8 := [116, 97, 103]
def checkA (a : Adr) : Int := if (quote a.disp).2 ≠ 0 ∨ 64 < a.disp.length then 50 else if checkU a.uri ≠ 0 then checkU a.uri else (textS a.ps).2
/-- the words between blanks -/
def wordsGo : List UInt8 → List UInt8 → List (List UInt8)
  | cur, [] => if cur = [] then [] else [cur]
  | cur, c :: r => if blank c = true then (if cur = [] then wordsGo [] r else cur :: wordsGo [] r) else wordsGo (cur ++ [c]) r
def dispb (c : UInt8) : Bool := blank c || testc 8 c
def dispT (t : List UInt8) : Option (List UInt8) :=
  if opens 34 t = true then (if (unquote t).2 = 0 then some (unquote t).1 else none)
  else if t.all dispb = true then some (glue [32] (wordsGo [] t)) else none
def displayS (l : List UInt8) : Option (List UInt8) := dispT (trim l)
/-- where the first angle stands that is not quoted; below 0: there is none -/
def angGo : Bool → List UInt8 → Int → Int
  | _, [], _ => -1
  | q, c :: r, k =>
    if q = true ∧ c.toNat = 92 then
      match r with
      | [] => -1
      | _ :: r' => angGo q r' (k + 2)
    else if c.toNat = 34 then angGo (!q) r (k + 1)
    else if q = false ∧ c.toNat = 60 then k
    else angGo q r (k + 1)
def angS (l : List UInt8) : Int := angGo false l 0
def barb (c : UInt8) : Bool := c.toNat == 63 || c.toNat == 44 || c.toNat == 34
def endA (d : List UInt8) (u : Uri × Int) (h : List UInt8) (f : List Prm × Int) : Adr × Int :=
  if u.2 ≠ 0 then (adr0, u.2) else if trim h ≠ [] then (adr0, 50) else if f.2 ≠ 0 then (adr0, f.2) else (⟨d, u.1, f.1⟩, 0)
def parseA2 (d wh bh : List UInt8) : Adr × Int := endA d (parseU wh) ((parts bh 59).headD []) (fieldsS (parts bh 59).tail)
def parseN (d : Option (List UInt8)) (c : List UInt8 × List UInt8 × Bool) : Adr × Int :=
  match d with
  | none => (adr0, 50)
  | some d => if 64 < d.length ∨ c.2.2 = false then (adr0, 50) else parseA2 d c.1 c.2.1
def parseB (s wh : List UInt8) : Adr × Int := if wh.any barb = true then (adr0, 50) else parseA2 [] wh (s.drop (cutb 59 s).1.length)
def parseA1 (s : List UInt8) : Adr × Int :=
  if 0 ≤ angS s then parseN (displayS (s.take (angS s).toNat)) (cutb 62 (s.drop ((angS s).toNat + 1)))
  else parseB s (trim (cutb 59 s).1)
def parseA (l : List UInt8) : Adr × Int := parseA1 (trim l)
def tagA (a : Adr) : List UInt8 := (value a.ps nTag).1

theorem ang_cons (q : Bool) (c : UInt8) (r : List UInt8) (k : Int) (h : ¬ (q = true ∧ c.toNat = 92)) : angGo q (c :: r) k = if c.toNat = 34 then angGo (!q) r (k + 1) else if q = false ∧ c.toNat = 60 then k else angGo q r (k + 1) := by
  cases r <;> (rw [angGo.eq_def]; dsimp only; rw [if_neg h])
theorem ang_esc (c d : UInt8) (r : List UInt8) (k : Int) (h : c.toNat = 92) : angGo true (c :: d :: r) k = angGo true r (k + 2) := by
  rw [angGo.eq_def]; dsimp only; rw [if_pos ⟨rfl, h⟩]
theorem checkA_parts (a : Adr) (h : checkA a = 0) : (quote a.disp).2 = 0 ∧ a.disp.length ≤ 64 ∧ checkU a.uri = 0 ∧ (textS a.ps).2 = 0 := by
  unfold checkA at h
  split at h
  · exact absurd h (by decide)
  · rename_i h1
    split at h
    · rename_i h2; exact absurd h h2
    · rename_i h2
      by_cases hq : (quote a.disp).2 = 0
      · refine ⟨hq, ?_, ?_, h⟩
        · by_cases hl : 64 < a.disp.length
          · exact absurd (.inr hl) h1
          · omega
        · by_cases hc : checkU a.uri = 0
          · exact hc
          · exact absurd hc h2
      · exact absurd (.inl hq) h1
theorem unqGo_ok : ∀ (l r : List UInt8), unqGo l = some r → r.any broken = false
  | [], r, h => by rw [unqGo] at h; injection h with h; rw [← h]; rfl
  | [c], r, h => by
    rw [unqGo] at h
    split at h
    · rename_i hb
      injection h with h
      rw [← h, List.any_cons, List.any_nil, Bool.or_false]
      exact bare_broken c hb
    · cases h
  | c :: d :: r, x, h => by
    rw [unqGo] at h
    split at h
    · split at h
      · cases h
      · rename_i hd
        obtain ⟨y, hy, rfl⟩ := Option.map_eq_some_iff.1 h
        rw [List.any_cons, unqGo_ok r y hy, Bool.or_false]
        simp only [Bool.or_eq_true, not_or] at hd
        simpa using hd.1
    · split at h
      · rename_i hb
        obtain ⟨y, hy, rfl⟩ := Option.map_eq_some_iff.1 h
        rw [List.any_cons, unqGo_ok (d :: r) y hy, Bool.or_false]
        exact bare_broken c hb
      · cases h
where
  bare_broken (c : UInt8) (h : bare c = true) : broken c = false := by
    have := all_bytes (fun c => bare c = true → broken c = false) (by decide +kernel) c
    exact this h
theorem quote_of (l : List UInt8) (h : l.any broken = false) : (quote l).2 = 0 := by
  unfold quote
  rw [h, if_neg (by decide)]
theorem unquote_ok0 (l : List UInt8) (h : (unquote l).2 = 0) : (quote (unquote l).1).2 = 0 := by
  unfold unquote at h ⊢
  split
  · rename_i h1; rw [if_pos h1] at h; exact absurd h (by decide)
  · rename_i h1
    rw [if_neg h1] at h
    cases hu : unqGo ((l.drop 1).take (l.length - 2)) with
    | none => rw [hu] at h; exact absurd h (by decide)
    | some r => exact quote_of _ (unqGo_ok _ _ hu)
theorem words_broken : ∀ (l cur : List UInt8), l.all dispb = true → (∀ c ∈ cur, broken c = false) → ∀ w ∈ wordsGo cur l, ∀ c ∈ w, broken c = false
  | [], cur, _, hc => by
    intro w hw
    rw [wordsGo] at hw
    split at hw
    · cases hw
    · rw [List.mem_singleton] at hw; subst hw; exact hc
  | c :: r, cur, h, hc => by
    rw [List.all_cons, Bool.and_eq_true] at h
    intro w hw
    rw [wordsGo] at hw
    have h0 : ∀ c ∈ ([] : List UInt8), broken c = false := fun c hc => by cases hc
    split at hw
    · split at hw
      · exact words_broken r [] h.2 h0 w hw
      · rcases List.mem_cons.1 hw with rfl | hw
        · exact hc
        · exact words_broken r [] h.2 h0 w hw
    · refine words_broken r (cur ++ [c]) h.2 (fun d hd => ?_) w hw
      rcases List.mem_append.1 hd with hd | hd
      · exact hc d hd
      · rw [List.mem_singleton] at hd
        subst hd
        have := all_bytes (fun c => dispb c = true → broken c = false) (by decide +kernel) d
        exact this h.1
theorem glue_mem (sep : List UInt8) : ∀ (L : List (List UInt8)), ∀ c ∈ glue sep L, (∃ w ∈ L, c ∈ w) ∨ c ∈ sep
  | [], c, h => by cases h
  | [x], c, h => .inl ⟨x, List.mem_cons_self .., h⟩
  | x :: y :: r, c, h => by
    rw [glue] at h
    rcases List.mem_append.1 h with h | h
    · exact .inl ⟨x, List.mem_cons_self .., h⟩
    · rcases List.mem_append.1 h with h | h
      · exact .inr h
      · rcases glue_mem sep (y :: r) c h with ⟨w, hw, hc⟩ | h
        · exact .inl ⟨w, List.mem_cons_of_mem _ hw, hc⟩
        · exact .inr h
theorem display_ok (l d : List UInt8) (h : displayS l = some d) : (quote d).2 = 0 := by
  unfold displayS dispT at h
  split at h
  · split at h
    · rename_i hu; injection h with h; rw [← h]; exact unquote_ok0 _ hu
    · cases h
  · split at h
    · rename_i ha
      injection h with h
      refine quote_of _ ?_
      rw [List.any_eq_false]
      intro c hc
      rw [← h] at hc
      rcases glue_mem _ _ c hc with ⟨w, hw, hcw⟩ | hc
      · rw [words_broken _ [] ha (fun c hc => by cases hc) w hw c hcw]; decide
      · rw [List.mem_singleton] at hc; subst hc; decide +kernel
    · cases h
theorem endA_ok (d : List UInt8) (wh h : List UInt8) (Ps : List (List UInt8)) (hd : (quote d).2 = 0) (hl : d.length ≤ 64) :
    ((endA d (parseU wh) h (fieldsS Ps)).2 = 0 → checkA (endA d (parseU wh) h (fieldsS Ps)).1 = 0) ∧ ((endA d (parseU wh) h (fieldsS Ps)).2 ≠ 0 → (endA d (parseU wh) h (fieldsS Ps)).1 = adr0) := by
  unfold endA
  by_cases h1 : (parseU wh).2 = 0
  · rw [if_neg (fun x => x h1)]
    by_cases h2 : trim h = []
    · rw [if_neg (fun x => x h2)]
      by_cases h3 : (fieldsS Ps).2 = 0
      · rw [if_neg (fun x => x h3)]
        refine ⟨fun _ => ?_, fun x => absurd rfl x⟩
        unfold checkA
        dsimp only
        have hu := (parseU_ok wh).1 h1
        rw [if_neg (by rintro (x | x); exact x hd; omega), if_neg (fun x => x hu)]
        exact fields_textS Ps h3
      · rw [if_pos h3]; exact ⟨fun x => absurd x h3, fun _ => rfl⟩
    · rw [if_pos h2]; exact ⟨fun x => absurd x (by decide), fun _ => rfl⟩
  · rw [if_pos h1]; exact ⟨fun x => absurd x h1, fun _ => rfl⟩
/-- WHAT IS READ MAY BE WRITTEN, AND WHAT IS NOT READ IS NO ADDRESS -/
theorem parseA_ok (l : List UInt8) : ((parseA l).2 = 0 → checkA (parseA l).1 = 0) ∧ ((parseA l).2 ≠ 0 → (parseA l).1 = adr0) := by
  have bad : ((adr0, (50 : Int)).2 = 0 → checkA (adr0, (50 : Int)).1 = 0) ∧ ((adr0, (50 : Int)).2 ≠ 0 → (adr0, (50 : Int)).1 = adr0) := ⟨fun h => absurd h (by decide), fun _ => rfl⟩
  unfold parseA parseA1
  split
  · unfold parseN
    cases hd : displayS ((trim l).take (angS (trim l)).toNat) with
    | none => exact bad
    | some d =>
      dsimp only
      split
      · exact bad
      · rename_i h1
        exact endA_ok d _ _ _ (display_ok _ _ hd) (by
          by_cases hl : 64 < d.length
          · exact absurd (.inl hl) h1
          · omega)
  · unfold parseB
    split
    · exact bad
    · exact endA_ok [] _ _ _ rfl (Nat.zero_le _)
end Go.Proofs.YtipdiddjhimdcaaGreatDoor

namespace Go.Proofs.YtipdiddjhimdcaaGreatDoor
open Go.RowKit

theorem ang_end (q : Bool) (k : Int) : angGo q [] k = -1 := by rw [angGo]
theorem ang_step (s : ByteArray) (b : Bool) (k : Nat) (h : k < s.size) (hp : angS (us s) = angGo b ((us s).drop k) (k : Int)) :
    (b = true ∧ ((s[k].toNat : Int) == 92) = true ∧ angS (us s) = angGo b ((us s).drop (k + 2)) ((k + 2 : Nat) : Int)) ∨
    ((b = false ∨ ((s[k].toNat : Int) == 92) = false) ∧ ((s[k].toNat : Int) == 34) = true ∧ angS (us s) = angGo (!b) ((us s).drop (k + 1)) ((k + 1 : Nat) : Int)) ∨
    ((b = false ∨ ((s[k].toNat : Int) == 92) = false) ∧ ((s[k].toNat : Int) == 34) = false ∧ b = false ∧ ((s[k].toNat : Int) == 60) = true ∧ angS (us s) = (k : Int)) ∨
    ((b = false ∨ ((s[k].toNat : Int) == 92) = false) ∧ ((s[k].toNat : Int) == 34) = false ∧ (b = true ∨ ((s[k].toNat : Int) == 60) = false) ∧ angS (us s) = angGo b ((us s).drop (k + 1)) ((k + 1 : Nat) : Int)) := by
  rw [hp, drop_us s k h]
  have t : ∀ n : Nat, ((s[k].toNat : Int) == (n : Int)) = decide (s[k].toNat = n) := fun n => by
    rw [Bool.eq_iff_iff, beq_iff_eq, decide_eq_true_iff]; omega
  have t92 := t 92
  have t34 := t 34
  have t60 := t 60
  simp only [Int.cast_ofNat_Int] at t92 t34 t60
  rw [t92, t34, t60]
  by_cases h1 : b = true ∧ s[k].toNat = 92
  · refine .inl ⟨h1.1, decide_eq_true h1.2, ?_⟩
    obtain ⟨rfl, h2⟩ := h1
    by_cases h3 : k + 1 < s.size
    · rw [drop_us s (k + 1) h3, ang_esc _ _ _ _ h2]
      congr 1
    · rw [drop_us_end s (k + 1) (by omega), drop_us_end s (k + 2) (by omega), ang_end]
      rw [angGo.eq_def]; dsimp only; rw [if_pos ⟨rfl, h2⟩]
  · refine .inr ?_
    have hb : b = false ∨ decide (s[k].toNat = 92) = false := by
      cases b
      · exact .inl rfl
      · exact .inr (decide_eq_false (fun e => h1 ⟨rfl, e⟩))
    rw [ang_cons _ _ _ _ h1]
    by_cases h2 : s[k].toNat = 34
    · exact .inl ⟨hb, decide_eq_true h2, by rw [if_pos h2]; rfl⟩
    · refine .inr ?_
      rw [if_neg h2]
      by_cases h3 : b = false ∧ s[k].toNat = 60
      · exact .inl ⟨hb, decide_eq_false h2, h3.1, decide_eq_true h3.2, by rw [if_pos h3]⟩
      · refine .inr ⟨hb, decide_eq_false h2, ?_, by rw [if_neg h3]; rfl⟩
        cases b
        · exact .inr (decide_eq_false (fun e => h3 ⟨rfl, e⟩))
        · exact .inl rfl
theorem ang_ge : ∀ (n : Nat) (l : List UInt8) (q : Bool) (k : Int), l.length ≤ n → 0 ≤ k → angGo q l k = -1 ∨ (k ≤ angGo q l k ∧ angGo q l k < k + l.length)
  | n, [], q, k, _, _ => .inl (ang_end q k)
  | 0, c :: r, q, k, h, _ => by simp at h
  | n + 1, c :: r, q, k, h, hk => by
    rw [List.length_cons] at h
    by_cases h1 : q = true ∧ c.toNat = 92
    · cases r with
      | nil => left; rw [angGo.eq_def]; dsimp only; rw [if_pos h1]
      | cons d r =>
        obtain ⟨rfl, h2⟩ := h1
        rw [ang_esc _ _ _ _ h2]
        rcases ang_ge n r true (k + 2) (by simp at h; omega) (by omega) with h3 | h3
        · exact .inl h3
        · right; simp; omega
    · rw [ang_cons _ _ _ _ h1]
      split
      · rcases ang_ge n r (!q) (k + 1) (by omega) (by omega) with h3 | h3
        · exact .inl h3
        · right; simp; omega
      · split
        · right; simp; omega
        · rcases ang_ge n r q (k + 1) (by omega) (by omega) with h3 | h3
          · exact .inl h3
          · right; simp; omega
theorem angS_lt (l : List UInt8) : angS l = -1 ∨ (0 ≤ angS l ∧ angS l < l.length) := by
  rcases ang_ge l.length l false 0 (Nat.le_refl _) (Int.le_refl _) with h | h
  · exact .inl h
  · exact .inr ⟨h.1, by have := h.2; unfold angS; omega⟩
set_option maxHeartbeats 1600000 in
theorem angle_c (s : ByteArray) (hs : s.size ≤ 4294967280) (w : World) :
    Calls Tryz.prog 56 #[.string s] w fun e w' => e = .returned (.int .i64 (angS (us s))) ∧ w = w' := by
  have HST := Lib.hid (fun b k h hp => ang_step s b k h hp)
  go_enter Tryz.func56, Tryz.ntmps56
  go_wp2
  go_loop [3, 4] (fun q i => ∃ (b : Bool) (k : Nat), k ≤ s.size + 1 ∧ q = .bool b ∧ i = .int .i64 k ∧ Hid (angS (us s) = angGo b ((us s).drop k) (k : Int))) (fun _ i => s.size + 1 - (intOf i).toNat)
  case atStart => exact ⟨false, 0, Nat.zero_le _, rfl, rfl, Lib.hid rfl⟩
  case round =>
    obtain ⟨b, k, hk, rfl, rfl, HP⟩ := hrel
    by_cases hlt : k < s.size
    · have k0 : (0 : Int) ≤ (k : Int) := by omega
      have k1 : (k : Int) < (s.size : Int) := by omega
      rcases HST.out b k hlt HP.out with ⟨rfl, h1, hn⟩ | ⟨h1, h2, hn⟩ | ⟨h1, h2, rfl, h3, hn⟩ | ⟨h1, h2, h3, hn⟩
      · have HN := Lib.hid hn
        clear hn HP
        go_wp2
        go_round
        case rel => exact ⟨true, k + 2, by omega, rfl, by go_num, HN⟩
        case measure => simp [intOf]; omega
      · have HN := Lib.hid hn
        clear hn HP
        cases b
        all_goals
          first | (have h4 : ((s[k].toNat : Int) == 92) = false := by simpa using h1) | skip
          clear h1
          go_wp2
          go_round
          case rel => exact ⟨_, k + 1, by omega, rfl, by go_num, HN⟩
          case measure => simp [intOf]; omega
      · have HN := Lib.hid hn
        clear hn HP h1
        go_wp2
        go_ret
        exact ⟨ret_int HN.out.symm, rfl⟩
      · have HN := Lib.hid hn
        clear hn HP
        cases b
        · have h4 : ((s[k].toNat : Int) == 60) = false := by simpa using h3
          clear h1 h3
          go_wp2
          go_round
          case rel => exact ⟨_, k + 1, by omega, rfl, by go_num, HN⟩
          case measure => simp [intOf]; omega
        · have h4 : ((s[k].toNat : Int) == 92) = false := by simpa using h1
          clear h1 h3
          go_wp2
          go_round
          case rel => exact ⟨_, k + 1, by omega, rfl, by go_num, HN⟩
          case measure => simp [intOf]; omega
    · have HN := Lib.hid (show angS (us s) = -1 by rw [HP.out, drop_us_end s k (by omega), ang_end])
      clear HP
      go_wp2
      go_ret
      exact ⟨ret_int HN.out.symm, rfl⟩

end Go.Proofs.YtipdiddjhimdcaaGreatDoor

namespace Go.Proofs.YtipdiddjhimdcaaGreatDoor
open Go.RowKit

def sumJ : List (List UInt8) → Nat
  | [] => 0
  | x :: r => x.length + sumJ r
theorem sumJ_take (L : List (List UInt8)) (k : Nat) (h : k < L.length) : sumJ (L.take (k + 1)) = sumJ (L.take k) + L[k].length := by
  induction L generalizing k with
  | nil => simp at h
  | cons x r ih =>
    cases k with
    | zero => simp [sumJ]
    | succ k =>
      have := ih k (by simpa using h)
      simp only [List.take_succ_cons, sumJ, List.getElem_cons_succ] at this ⊢
      omega
theorem sumJ_le : ∀ (L : List (List UInt8)) (k : Nat), sumJ (L.take k) ≤ sumJ L
  | [], k => by simp [sumJ]
  | x :: r, 0 => Nat.zero_le _
  | x :: r, k + 1 => by
    have := sumJ_le r k
    rw [List.take_succ_cons, sumJ, sumJ]; omega
theorem glue_snocJ (sep : List UInt8) : ∀ (L : List (List UInt8)) (x : List UInt8), L ≠ [] → glue sep (L ++ [x]) = glue sep L ++ (sep ++ x)
  | [], _, h => absurd rfl h
  | [a], x, _ => rfl
  | a :: b :: r, x, _ => by
    have ih := glue_snocJ sep (b :: r) x (by simp)
    show a ++ (sep ++ glue sep ((b :: r) ++ [x])) = (a ++ (sep ++ glue sep (b :: r))) ++ (sep ++ x)
    rw [ih]; simp
theorem glue_takeJ (sep : List UInt8) (L : List (List UInt8)) (k : Nat) (h : k + 1 < L.length) : glue sep (L.take (k + 2)) = glue sep (L.take (k + 1)) ++ (sep ++ L[k + 1]) := by
  rw [List.take_succ_eq_append_getElem (i := k + 1) h, glue_snocJ sep _ _ (by intro e; have := congrArg List.length e; rw [List.length_take, List.length_nil] at this; omega)]
theorem glueJ_len : ∀ (L : List (List UInt8)) (k : Nat), (glue [32] (L.take k)).length ≤ sumJ L + L.length := by
  have key : ∀ L : List (List UInt8), (glue [32] L).length ≤ sumJ L + L.length := by
    intro L
    induction L with
    | nil => exact Nat.zero_le _
    | cons x r ih =>
      cases r with
      | nil => show x.length ≤ x.length + 0 + 1; omega
      | cons y s =>
        show (x ++ ([32] ++ glue [32] (y :: s))).length ≤ x.length + sumJ (y :: s) + ((y :: s).length + 1)
        rw [List.length_append, List.length_append]
        have : ([32] : List UInt8).length = 1 := rfl
        omega
  intro L k
  have h1 := key (L.take k)
  have h2 := sumJ_le L k
  have h3 : (L.take k).length ≤ L.length := by rw [List.length_take]; omega
  omega

set_option maxRecDepth 100000 in
set_option maxHeartbeats 6400000 in
theorem join_c (v : Value) (L : List (List UInt8)) (w : World) (h1 : RStrs w v L) (hbd : sumJ L + L.length ≤ 1099511627776) :
    Calls Tryz.prog 108 #[v, .string ⟨#[32]⟩] w fun e w' => e = .returned (.string (bs (glue [32] L))) ∧ Below w.heap.size w w' := by
  obtain ⟨ao, cap, rfl, hm1, c1⟩ := h1.form
  have C1 := Lib.hid c1
  have hcapF : 0 < L.length → L.length ≤ cap := by
    intro h0
    rcases h1.cases with ⟨_, h⟩ | ⟨b, off, c, h, hc, _⟩
    · rw [h] at h0; cases h0
    · injection h with _ _ h; omega
  clear c1 h1
  unfold maxLen at hm1
  by_cases h0 : L.length = 0
  · obtain rfl := List.eq_nil_of_length_eq_zero h0
    clear h0 hcapF
    go_enter Tryz.func108, Tryz.ntmps108
    go_wp2
    go_ret
    exact ⟨rfl, Below.refl _ _⟩
  obtain ⟨b, off, rfl, hb1, hc1⟩ := C1.out (by omega)
  by_cases h2 : L.length = 1
  · obtain ⟨x, rfl⟩ : ∃ x, L = [x] := by
      match L, h2 with
      | [x], _ => exact ⟨x, rfl⟩
    have x0 : w.cell? ⟨b, off, none⟩ = some (.string (bs x)) := hc1 0 (Nat.zero_lt_one)
    clear h0 h2 hc1 hcapF
    go_enter Tryz.func108, Tryz.ntmps108
    go_wp2
    go_ret
    exact ⟨rfl, Below.refl _ _⟩
  have hL2 : 2 ≤ L.length := by omega
  have hcp : L.length ≤ cap := hcapF (by omega)
  have HC := Lib.hid hc1
  have t0 : ((L.length : Int) == 0) = false := by rw [beq_eq_false_iff_ne]; omega
  have t1 : ((L.length : Int) == 1) = false := by rw [beq_eq_false_iff_ne]; omega
  have hsl := Lib.hid (sumJ_le L)
  have hbl : L.length ≤ 1099511627776 := by omega
  have q0 : ¬ ((9223372036854775807 : Int) / ((L.length : Int) - 1) ≤ 1) := by
    intro h
    have h3 : (9223372036854775807 : Int) < 2 * ((L.length : Int) - 1) := by
      have := Int.lt_mul_of_ediv_lt (a := 9223372036854775807) (b := 2) (c := (L.length : Int) - 1) (by omega) (by omega)
      omega
    omega
  clear h0 h2 hc1 hcapF
  go_enter Tryz.func108, Tryz.ntmps108
  go_wp2
  go_loop [5, 41] (fun n i => ∃ k N : Nat, k ≤ L.length ∧ i = .int .i64 k ∧ n = .int .i64 N ∧ Hid (N + 1 = L.length + sumJ (L.take k)) ∧ N ≤ 1099511627776) (fun _ i => L.length - (intOf i).toNat)
  case atStart => exact ⟨0, L.length - 1, Nat.zero_le _, rfl, by congr 1; omega, Lib.hid (by simp [sumJ]; omega), by omega⟩
  case round =>
    obtain ⟨k, N, hk, rfl, rfl, HN, hN⟩ := hrel
    by_cases hlt : k < L.length
    · have x0 : w.cell? ⟨b, off + k, none⟩ = some (.string (bs L[k])) := HC.out k hlt
      have hst := sumJ_take L k hlt
      have hle := hsl.out (k + 1)
      obtain ⟨X, hX⟩ : ∃ X, X = bs L[k] := ⟨_, rfl⟩
      have hXs : X.size = L[k].length := by rw [hX, size_bs]
      rw [← hX] at x0
      have hn1 := HN.out
      have hN2 : N + X.size ≤ 1099511627776 := by omega
      have HN2 := Lib.hid (show (N + X.size) + 1 = L.length + sumJ (L.take (k + 1)) by omega)
      have hXb : X.size ≤ 1099511627776 := by omega
      clear hst hle hX hXs hn1
      have k0 : (0 : Int) ≤ (k : Int) := by omega
      have k1 : (k : Int) < (L.length : Int) := by omega
      go_wp2
      go_round
      case rel => exact ⟨k + 1, N + X.size, by omega, by go_num, by simp, HN2, hN2⟩
      case measure => simp [intOf]; omega
    · have x0 : w.cell? ⟨b, off, none⟩ = some (.string (bs L[0])) := HC.out 0 (by omega)
      have hn1 := HN.out
      rw [List.take_of_length_le (by omega)] at hn1
      have h0t := sumJ_take L 0 (by omega)
      have h0l := hsl.out (0 + 1)
      obtain ⟨X, hX⟩ : ∃ X, X = bs L[0] := ⟨_, rfl⟩
      have hXs : X.size = L[0].length := by rw [hX, size_bs]
      have HX0 := Lib.hid (show us X = glue [32] (L.take 1) by
        rw [hX, us_bs]
        cases L with
        | nil => exact absurd hL2 (by decide)
        | cons x r => rfl)
      rw [← hX] at x0
      have hXb : X.size ≤ 1099511627776 := by omega
      clear h0t h0l hX hXs hn1
      have hcap1 : ¬ (cap = 1) := by omega
      have hBA : Below w.heap.size w (w.alloc (.cells #[.pointer none, .slice none 0 0] 142)) := (Below.refl _ _).alloc (Nat.le_refl _) _
      have HBK := Lib.hid (heap_alloc_new w (.cells #[.pointer none, .slice none 0 0] 142))
      have e32 : (⟨#[32]⟩ : ByteArray).size = 1 := rfl
      go_wp2_with (first | (go_at_call 153; refine (Tryz.Builder_Grow_fresh w.heap.size w.heap.size N _ (Nat.le_refl _) HBK.out hBA.size (by omega)).mono ?_; rintro e w1 ⟨rfl, hbq, hB1⟩; have hWr : Bld w.heap.size w.heap.size [] w1 := .inr hbq; have hBr := hBA.trans hB1; have y0 : w1.cell? ⟨b, off, none⟩ = some (.string X) := (hBr.cell (p := ⟨b, off, none⟩) hb1).trans x0) | (go_at_call 84; (with_reducible refine (bld_write w.heap.size w.heap.size _ _ _ hWr (by (try simp only [List.length_append]); (try simp only [List.length_nil]); (try simp only [length_us]); omega) hBr.size).mono ?_); rintro e w5 ⟨rfl, hWr, hB5⟩; have hBr := hBr.trans hB5))
      rw [List.nil_append] at hWr
      obtain ⟨l0, hl0⟩ : ∃ l, l = us X := ⟨_, rfl⟩
      rw [← hl0] at hWr
      have HL0 := Lib.hid (show l0 = glue [32] (L.take 1) by rw [hl0, HX0.out])
      clear hl0
      go_loopw [65] (fun i wr => ∃ (k : Nat) (l : List UInt8), k + 1 ≤ L.length ∧ i = .int .i64 k ∧ Hid (l = glue [32] (L.take (k + 1))) ∧ Bld w.heap.size w.heap.size l wr ∧ Below w.heap.size w wr) (fun i _ => L.length - (intOf i).toNat)
      case atStart => exact ⟨0, l0, by omega, rfl, HL0, hWr, hBr⟩
      case round =>
        clear hWr hBr
        obtain ⟨k, l, hk, rfl, HL, hWr, hBr⟩ := hrel
        have hgl := glueJ_len L (k + 1)
        have hll : l.length ≤ 1099511627776 := by rw [HL.out]; omega
        clear hgl
        by_cases hlt : k + 1 < L.length
        · have x1 : wr.cell? ⟨b, off + 1 + k, none⟩ = some (.string (bs L[k + 1])) := by
            rw [hBr.cell (p := ⟨b, off + 1 + k, none⟩) hb1, show off + 1 + k = off + (k + 1) by omega]; exact HC.out (k + 1) hlt
          have hst := sumJ_take L (k + 1) hlt
          have hle := hsl.out (k + 1 + 1)
          have HGT := Lib.hid (glue_takeJ [32] L k hlt)
          obtain ⟨Y, hY⟩ : ∃ X, X = bs L[k + 1] := ⟨_, rfl⟩
          have hYs : Y.size ≤ 1099511627776 := by rw [hY, size_bs]; omega
          have HYu := Lib.hid (show us Y = L[k + 1] by rw [hY, us_bs])
          rw [← hY] at x1
          clear hY hst hle
          have k0 : (0 : Int) ≤ (k : Int) := by omega
          have k1 : (k : Int) < (L.length : Int) - 1 := by omega
          have k2 : k < L.length - 1 := by omega
          have k3 : (k : Int) < ((L.length - 1 : Nat) : Int) := by omega
          go_wp2_with (first | (go_at_call 84; (with_reducible refine (bld_write w.heap.size w.heap.size _ _ _ hWr (by (try simp only [List.length_append]); (try simp only [List.length_nil]); (try simp only [length_us]); omega) hBr.size).mono ?_); rintro e w5 ⟨rfl, hWr, hB5⟩; have hBr := hBr.trans hB5))
          go_roundw
          case rel => exact ⟨k + 1, _, by omega, by go_num, Lib.hid (by rw [HGT.out, HL.out, HYu.out]; simp [us]), hWr, hBr⟩
          case measure => simp [intOf]; omega
        · have k1 : ¬ ((k : Int) < (L.length : Int) - 1) := by omega
          have k2 : ¬ (k < L.length - 1) := by omega
          have k3 : ¬ ((k : Int) < ((L.length - 1 : Nat) : Int)) := by omega
          have hkL : k + 1 = L.length := by omega
          have HL2 := HL.out
          rw [hkL, List.take_of_length_le (Nat.le_refl _)] at HL2
          have HLf := Lib.hid HL2
          clear HL2 hkL
          go_wp2_with (go_at_call 87; refine (bld_str _ _ l _ hWr hBr.size).mono ?_; rintro e w8 ⟨rfl, hB8⟩)
          go_ret
          exact ⟨ret_bs (by rw [us_bs, HLf.out]), hBr.trans hB8⟩

end Go.Proofs.YtipdiddjhimdcaaGreatDoor

namespace Go.Proofs.YtipdiddjhimdcaaGreatDoor
open Go.RowKit

def rblank (n : Nat) : Bool := n == 32 || n == 9
open Go.Lib in
theorem spans_mono (p : Nat → Bool) (s : ByteArray) : ∀ (f pos : Nat) (st : Option Nat) (acc : List (Nat × Nat)),
    (∀ x ∈ acc, x ∈ closeSpans s (spansFromP p s f pos st acc)) ∧ (∀ a, st = some a → ∃ b, (a, b) ∈ closeSpans s (spansFromP p s f pos st acc) ∧ ∀ i, i < pos → i < s.size → i < b)
  | 0, pos, st, acc => by
    unfold spansFromP closeSpans
    cases st with
    | none => exact ⟨fun x hx => hx, fun a h => by cases h⟩
    | some a =>
      refine ⟨fun x hx => List.mem_append_left _ hx, fun b h => ?_⟩
      injection h with h
      subst h
      exact ⟨s.size, by simp, fun i _ h => h⟩
  | f + 1, pos, st, acc => by
    unfold spansFromP
    by_cases hp : pos < s.size
    · rw [if_pos hp]
      by_cases hq : p (Utf8.decode s pos).1 = true
      · rw [if_pos hq]
        cases st with
        | none =>
          have := spans_mono p s f (pos + (Utf8.decode s pos).2) none acc
          exact ⟨this.1, fun a h => by cases h⟩
        | some a =>
          have := spans_mono p s f (pos + (Utf8.decode s pos).2) none (acc ++ [(a, pos)])
          refine ⟨fun x hx => this.1 x (List.mem_append_left _ hx), fun b h => ?_⟩
          injection h with h
          subst h
          exact ⟨pos, this.1 _ (by simp), fun i h _ => h⟩
      · rw [if_neg hq]
        cases st with
        | none =>
          have := spans_mono p s f (pos + (Utf8.decode s pos).2) (some pos) acc
          exact ⟨this.1, fun a h => by cases h⟩
        | some a =>
          have := spans_mono p s f (pos + (Utf8.decode s pos).2) (some a) acc
          refine ⟨this.1, fun b h => ?_⟩
          injection h with h
          subst h
          obtain ⟨b, h1, h2⟩ := this.2 a rfl
          exact ⟨b, h1, fun i hi hs => h2 i (by omega) hs⟩
    · rw [if_neg hp]
      unfold closeSpans
      cases st with
      | none => exact ⟨fun x hx => hx, fun a h => by cases h⟩
      | some a =>
        refine ⟨fun x hx => List.mem_append_left _ hx, fun b h => ?_⟩
        injection h with h
        subst h
        exact ⟨s.size, by simp, fun i _ h => h⟩
open Go.Lib in
theorem spans_cover (s : ByteArray) : ∀ (f pos : Nat) (st : Option Nat) (acc : List (Nat × Nat)) (i : Nat), s.size ≤ pos + f → (∀ a, st = some a → a ≤ pos) → pos ≤ i → (hi : i < s.size) → blank s[i] = false →
    ∃ x ∈ closeSpans s (spansFromP rblank s f pos st acc), x.1 ≤ i ∧ i < x.2
  | 0, pos, st, acc, i, hf, _, h1, hi, _ => by omega
  | f + 1, pos, st, acc, i, hf, ha, h1, hi, hb => by
    have hp : pos < s.size := by omega
    have hw : 1 ≤ (Utf8.decode s pos).2 := by
      by_cases h : (s[pos]'hp).toNat < 128
      · rw [decode_ascii s pos hp h]; exact Nat.le_refl _
      · exact (decode_high s pos hp (by omega)).2
    by_cases hfar : pos + (Utf8.decode s pos).2 ≤ i
    · unfold spansFromP
      rw [if_pos hp]
      by_cases hq : rblank (Utf8.decode s pos).1 = true
      · rw [if_pos hq]
        cases st with
        | none => exact spans_cover s f _ none acc i (by omega) (fun a h => by cases h) hfar hi hb
        | some a => exact spans_cover s f _ none _ i (by omega) (fun a h => by cases h) hfar hi hb
      · rw [if_neg hq]
        cases st with
        | none => exact spans_cover s f _ (some pos) acc i (by omega) (fun a h => by injection h with h; omega) hfar hi hb
        | some a => exact spans_cover s f _ (some a) acc i (by omega) (fun b h => by injection h with h; have := ha a rfl; omega) hfar hi hb
    · have hq : ¬ rblank (Utf8.decode s pos).1 = true := by
        intro hq
        unfold rblank at hq
        simp only [Bool.or_eq_true, beq_iff_eq] at hq
        by_cases h128 : (s[pos]'hp).toNat < 128
        · have hd := decode_ascii s pos hp h128
          rw [hd] at hq hfar
          have hip : i = pos := by dsimp only at hfar; omega
          subst hip
          have : blank s[i] = true := by
            have hall := all_bytes (fun c => c.toNat = 32 ∨ c.toNat = 9 → blank c = true) (by decide +kernel) s[i]
            exact hall hq
          rw [hb] at this; cases this
        · have := (decode_high s pos hp (by omega)).1
          omega
      unfold spansFromP
      rw [if_pos hp, if_neg hq]
      cases st with
      | none =>
        obtain ⟨b, m, hb'⟩ := (spans_mono rblank s f (pos + (Utf8.decode s pos).2) (some pos) acc).2 pos rfl
        exact ⟨_, m, h1, hb' i (by omega) hi⟩
      | some a =>
        obtain ⟨b, m, hb'⟩ := (spans_mono rblank s f (pos + (Utf8.decode s pos).2) (some a) acc).2 a rfl
        exact ⟨_, m, Nat.le_trans (ha a rfl) h1, hb' i (by omega) hi⟩
def curS (s : ByteArray) (pos : Nat) : Option Nat → List UInt8
  | none => []
  | some a => ((us s).take pos).drop a
open Go.Lib in
theorem spans_words (s : ByteArray) (hall : ∀ (i : Nat) (h : i < s.size), (s[i]'h).toNat < 128) : ∀ (f pos : Nat) (st : Option Nat) (acc : List (Nat × Nat)), s.size ≤ pos + f → pos ≤ s.size → (∀ a, st = some a → a < pos) →
    (closeSpans s (spansFromP rblank s f pos st acc)).map (fun x => us (s.extract x.1 x.2)) = acc.map (fun x => us (s.extract x.1 x.2)) ++ wordsGo (curS s pos st) ((us s).drop pos)
  | f, pos, st, acc, hf, hps, ha => by
    have hend : pos = s.size → (closeSpans s (acc, st)).map (fun x => us (s.extract x.1 x.2)) = acc.map (fun x => us (s.extract x.1 x.2)) ++ wordsGo (curS s pos st) ((us s).drop pos) := by
      intro e
      rw [drop_us_end s pos (by omega), wordsGo.eq_def]
      unfold closeSpans curS
      cases st with
      | none => simp
      | some a =>
        have h1 := ha a rfl
        dsimp only
        rw [List.map_append, if_neg (by
          intro h
          have := congrArg List.length h
          rw [List.length_drop, List.length_take, length_us, List.length_nil] at this
          omega), List.map_cons, List.map_nil, us_extract, e, List.drop_take]
    match f with
    | 0 =>
      have : spansFromP rblank s 0 pos st acc = (acc, st) := rfl
      rw [this]
      exact hend (by omega)
    | f + 1 =>
      by_cases hp : pos < s.size
      · have hd := decode_ascii s pos hp (hall pos hp)
        unfold spansFromP
        rw [if_pos hp, hd]
        dsimp only
        rw [drop_us s pos hp]
        have hbl : rblank (s[pos]'hp).toNat = blank (s[pos]'hp) := by
          have h := all_bytes (fun c => rblank c.toNat = blank c) (by decide +kernel) (s[pos]'hp)
          exact h
        rw [hbl]
        cases hb : blank (s[pos]'hp)
        · rw [if_neg (by decide)]
          have htk : curS s (pos + 1) (some (st.getD pos)) = curS s pos st ++ [s[pos]'hp] := by
            unfold curS
            cases st with
            | none =>
              show ((us s).take (pos + 1)).drop pos = [] ++ [_]
              rw [take_us s pos hp, List.drop_append, List.drop_eq_nil_iff.2 (by rw [List.length_take]; omega), List.length_take, length_us, Nat.min_eq_left (by omega), Nat.sub_self]; rfl
            | some a =>
              have h1 := ha a rfl
              show ((us s).take (pos + 1)).drop a = ((us s).take pos).drop a ++ [_]
              rw [take_us s pos hp, List.drop_append, List.length_take, length_us, Nat.min_eq_left (by omega), show a - pos = 0 by omega]; rfl
          have hw : wordsGo (curS s pos st) (s[pos]'hp :: (us s).drop (pos + 1)) = wordsGo (curS s (pos + 1) (some (st.getD pos))) ((us s).drop (pos + 1)) := by
            rw [wordsGo, if_neg (by rw [hb]; decide), htk]
          rw [hw]
          cases st with
          | none => exact spans_words s hall f (pos + 1) (some pos) acc (by omega) (by omega) (fun a h => by injection h with h; omega)
          | some a => exact spans_words s hall f (pos + 1) (some a) acc (by omega) (by omega) (fun b h => by injection h with h; have := ha a rfl; omega)
        · rw [if_pos rfl]
          cases st with
          | none =>
            have hw : wordsGo (curS s pos none) (s[pos]'hp :: (us s).drop (pos + 1)) = wordsGo (curS s (pos + 1) none) ((us s).drop (pos + 1)) := by
              rw [wordsGo, if_pos hb]; rfl
            rw [hw]
            exact spans_words s hall f (pos + 1) none acc (by omega) (by omega) (fun a h => by cases h)
          | some a =>
            have h1 := ha a rfl
            have hne : curS s pos (some a) ≠ [] := by
              intro h
              have := congrArg List.length h
              unfold curS at this
              rw [List.length_drop, List.length_take, length_us, List.length_nil] at this
              omega
            have hw : wordsGo (curS s pos (some a)) (s[pos]'hp :: (us s).drop (pos + 1)) = curS s pos (some a) :: wordsGo (curS s (pos + 1) none) ((us s).drop (pos + 1)) := by
              rw [wordsGo, if_pos hb, if_neg hne]; rfl
            rw [hw]
            have := spans_words s hall f (pos + 1) none (acc ++ [(a, pos)]) (by omega) (by omega) (fun a h => by cases h)
            dsimp only
            rw [this, List.map_append, List.map_cons, List.map_nil, us_extract]
            simp [curS, List.drop_take]
      · have : spansFromP rblank s (f + 1) pos st acc = (acc, st) := spansFromP_end _ _ _ _ _ _ hp
        rw [this]
        exact hend (by omega)

/-- the words as strings.FieldsFunc cuts them -/
def wrdS (T : ByteArray) : List (List UInt8) := (Go.Lib.goFieldsP rblank T).map us
theorem wrd_spans (T : ByteArray) : wrdS T = (Go.Lib.spansOfP rblank T).map (fun x => us (T.extract x.1 x.2)) := by
  unfold wrdS Go.Lib.goFieldsP
  rw [List.map_map]; rfl
theorem dispb_ascii (c : UInt8) (h : dispb c = true) : c.toNat < 128 := by
  have := all_bytes (fun c => dispb c = true → c.toNat < 128) (by decide +kernel) c
  exact this h
theorem wrd_words (T : ByteArray) (h : (us T).all dispb = true) : wrdS T = wordsGo [] (us T) := by
  rw [wrd_spans]
  have h1 : ∀ (i : Nat) (hi : i < T.size), (T[i]'hi).toNat < 128 := fun i hi => dispb_ascii _ (List.all_eq_true.1 h _ (List.mem_of_getElem? (get_us T i hi)))
  have := spans_words T h1 T.size 0 none [] (by omega) (Nat.zero_le _) (fun a h => by cases h)
  simpa [Go.Lib.spansOfP, curS] using this
theorem words_noblank : ∀ (l cur : List UInt8), (∀ c ∈ cur, blank c = false) → ∀ w ∈ wordsGo cur l, ∀ c ∈ w, blank c = false
  | [], cur, hc => by
    intro w hw
    rw [wordsGo] at hw
    split at hw
    · cases hw
    · rw [List.mem_singleton] at hw; subst hw; exact hc
  | c :: r, cur, hc => by
    intro w hw
    rw [wordsGo] at hw
    have h0 : ∀ c ∈ ([] : List UInt8), blank c = false := fun c hc => by cases hc
    split at hw
    · split at hw
      · exact words_noblank r [] h0 w hw
      · rcases List.mem_cons.1 hw with rfl | hw
        · exact hc
        · exact words_noblank r [] h0 w hw
    · rename_i hb
      refine words_noblank r (cur ++ [c]) (fun d hd => ?_) w hw
      rcases List.mem_append.1 hd with hd | hd
      · exact hc d hd
      · rw [List.mem_singleton] at hd; subst hd; simpa using hb
theorem disp_quote (l : List UInt8) (h : opens 34 l = true) : optB (dispT l) = ((unquote l).1, (unquote l).2 == 0) := by
  unfold dispT
  rw [if_pos h]
  by_cases hu : (unquote l).2 = 0
  · rw [if_pos hu, hu]; rfl
  · rw [if_neg hu]
    have h1 : (unquote l).1 = [] := by
      unfold unquote at hu ⊢
      split
      · rfl
      · rename_i h2
        rw [if_neg h2] at hu
        cases hq : unqGo ((l.drop 1).take (l.length - 2)) with
        | none => rfl
        | some r => rw [hq] at hu; exact absurd rfl hu
    rw [h1]
    have : ((unquote l).2 == 0) = false := by simpa using hu
    rw [this]; rfl
theorem wrd_mem (T : ByteArray) (x : List UInt8) (hx : x ∈ wrdS T) (c : UInt8) (hc : c ∈ x) : c ∈ us T := by
  rw [wrd_spans] at hx
  obtain ⟨y, _, rfl⟩ := List.mem_map.1 hx
  rw [us_extract] at hc
  exact List.mem_of_mem_drop (List.mem_of_mem_take hc)
theorem disp_good (T : ByteArray) (h : opens 34 (us T) = false) (hw : ∀ x ∈ wrdS T, allc 8 x = true) : optB (dispT (us T)) = (glue [32] (wrdS T), true) := by
  have hall : (us T).all dispb = true := by
    rw [List.all_eq_true]
    intro c hc
    obtain ⟨i, hi, e⟩ := List.getElem_of_mem hc
    have hi' : i < T.size := by rw [length_us] at hi; exact hi
    have ec : T[i]'hi' = c := by
      have := get_us T i hi'
      rw [List.getElem?_eq_getElem hi, e] at this
      injection this with this; first | done | exact this.symm
    unfold dispb
    cases hb : blank c
    · obtain ⟨y, hy, h1, h2⟩ := spans_cover T T.size 0 none [] i (by omega) (fun a h => by cases h) (Nat.zero_le _) hi' (by rw [ec]; exact hb)
      have hx := hw (us (T.extract y.1 y.2)) (by rw [wrd_spans]; exact List.mem_map.2 ⟨y, hy, rfl⟩)
      unfold allc at hx
      rw [List.all_eq_true] at hx
      have := hx c (by
        rw [us_extract, List.mem_iff_getElem?]
        refine ⟨i - y.1, ?_⟩
        rw [List.getElem?_take_of_lt (by omega), List.getElem?_drop, show y.1 + (i - y.1) = i by omega, get_us T i hi', ec])
      rw [this]; first | done | rfl
    · rfl
  unfold dispT
  rw [h, if_neg (by decide), if_pos hall, wrd_words T hall]
  first | done | rfl
theorem disp_bad (T : ByteArray) (h : opens 34 (us T) = false) (x : List UInt8) (hx : x ∈ wrdS T) (c : UInt8) (hc : c ∈ x) (hb : testc 8 c = false) : optB (dispT (us T)) = ([], false) ∧ T.size ≠ 0 := by
  have hm := wrd_mem T x hx c hc
  refine ⟨?_, fun h0 => ?_⟩
  · unfold dispT
    rw [h, if_neg (by decide), if_neg]
    · rfl
    · intro hall
      rw [wrd_words T hall] at hx
      have h1 := words_noblank (us T) [] (fun c hc => by cases hc) x hx c hc
      have h2 := List.all_eq_true.1 hall c hm
      unfold dispb at h2
      rw [h1, hb] at h2
      cases h2
  · have : us T = [] := List.eq_nil_of_length_eq_zero (by rw [length_us]; exact h0)
    rw [this] at hm; cases hm
theorem clos_c (r : Nat) (hr : r ≤ 1114111) (w : World) : Calls Tryz.prog 107 #[.int .i32 r] w fun e w' => e = .returned (.bool (rblank r)) ∧ w' = w := by
  by_cases h1 : r = 32
  · subst h1
    go_enter Tryz.func107, Tryz.ntmps107
    go_wp2
    go_ret
    exact ⟨rfl, rfl⟩
  by_cases h2 : r = 9
  · subst h2
    go_enter Tryz.func107, Tryz.ntmps107
    go_wp2
    go_ret
    exact ⟨rfl, rfl⟩
  have HE := Lib.hid (show rblank r = false by unfold rblank; simp [h1, h2])
  have n1 : (((r : Int)) == 32) = false := by rw [beq_eq_false_iff_ne]; omega
  have n2 : (((r : Int)) == 9) = false := by rw [beq_eq_false_iff_ne]; omega
  clear h1 h2
  go_enter Tryz.func107, Tryz.ntmps107
  go_wp2
  go_ret
  exact ⟨ret_bool HE.out.symm, rfl⟩

theorem words_sum : ∀ (l cur : List UInt8), sumJ (wordsGo cur l) + (wordsGo cur l).length ≤ 2 * (cur.length + l.length)
  | [], cur => by
    rw [wordsGo]
    split
    · simp [sumJ]
    · rename_i h
      have : 0 < cur.length := List.length_pos_iff.2 h
      simp [sumJ] <;> omega
  | c :: r, cur => by
    rw [wordsGo]
    split
    · split
      · have := words_sum r []
        simp at this ⊢; omega
      · rename_i h
        have h1 : 0 < cur.length := List.length_pos_iff.2 h
        have := words_sum r []
        rw [sumJ, List.length_cons]
        simp at this ⊢; omega
    · have := words_sum r (cur ++ [c])
      rw [List.length_append] at this
      simp at this ⊢; omega
theorem wrd_good (T : ByteArray) (hw : ∀ x ∈ wrdS T, allc 8 x = true) (h : opens 34 (us T) = false) : wrdS T = wordsGo [] (us T) := by
  have hall : (us T).all dispb = true := by
    have h1 := disp_good T h hw
    unfold dispT at h1
    rw [h, if_neg (by decide)] at h1
    cases ha : (us T).all dispb
    · rw [ha, if_neg (by decide)] at h1
      exact Bool.noConfusion (show false = true from congrArg Prod.snd h1)
    · rfl
  exact wrd_words T hall
theorem fieldsF_c (T : ByteArray) (hT : T.size ≤ 4294967280) (w : World) :
    Calls Tryz.prog 106 #[.string T, .func (.func 107) #[] #[]] w fun e w' => ∃ A, e = .returned (.slice (some ⟨A, 0, none⟩) (wrdS T).length (wrdS T).length) ∧ RStrs w' (.slice (some ⟨A, 0, none⟩) (wrdS T).length (wrdS T).length) (wrdS T) ∧ Below w.heap.size w w' := by
  refine (Tryz.strings_FieldsFunc_runes 107 #[] (fun args w => by kernel_rfl) rblank T w (by omega) (fun W x hx _ => (clos_c x hx W).mono fun e w' ⟨a, b⟩ => ⟨a, 0, b⟩)).mono ?_
  rintro e w' ⟨A, rfl, _, hown, hB⟩
  have hl : (Go.Lib.goFieldsP rblank T).length = (wrdS T).length := by unfold wrdS; rw [List.length_map]
  have hm : (Go.Lib.goFieldsP rblank T).map Value.string = (wrdS T).map sv := by
    unfold wrdS
    rw [List.map_map]
    refine List.map_congr_left fun x _ => ?_
    simp [sv]
  rw [hl, hm] at hown
  exact ⟨A, by rw [hl], RRow.of_own hown, hB⟩
set_option maxRecDepth 100000 in
set_option maxHeartbeats 6400000 in
theorem display_c (s : ByteArray) (hs : s.size ≤ 4294967280) (w : World) :
    Calls Tryz.prog 59 #[.string s] w fun e w' => e = .returned (.tuple #[.string (bs (optB (displayS (us s))).1), .bool (optB (displayS (us s))).2]) ∧ Below w.heap.size w w' := by
  have HTR := Lib.hid (fun wx => trim_c s (by omega) wx)
  have htl := trim_le (us s)
  rw [length_us] at htl
  have hdd : displayS (us s) = dispT (trim (us s)) := rfl
  obtain ⟨T, hT⟩ : ∃ T, T = bs (trim (us s)) := ⟨_, rfl⟩
  have uT : trim (us s) = us T := by rw [hT, us_bs]
  have sT : T.size ≤ 4294967280 := by rw [hT, size_bs]; omega
  rw [← hT] at HTR
  rw [hdd, uT]
  clear hT uT hdd htl hs
  have HP := Lib.hid (fun wx => prefix_c T 34 wx)
  have hq := disp_quote (us T)
  have hg := disp_good T
  have hbd := disp_bad T
  have hwg := wrd_good T
  have HFF := Lib.hid (fun wx => fieldsF_c T sT wx)
  have hws := words_sum (us T) []
  rw [length_us] at hws
  have hmx : ∀ x ∈ wrdS T, x.length ≤ 4294967280 := by
    intro x hx
    rw [wrd_spans] at hx
    obtain ⟨y, _, rfl⟩ := List.mem_map.1 hx
    rw [us_extract, List.length_take, List.length_drop, length_us]; omega
  obtain ⟨R, hR⟩ : ∃ R, R = optB (dispT (us T)) := ⟨_, rfl⟩
  rw [← hR] at hq hg hbd ⊢
  clear hR
  obtain ⟨o, ho⟩ : ∃ o, o = opens 34 (us T) := ⟨_, rfl⟩
  rw [← ho] at HP hq hg hbd hwg
  clear ho
  cases o
  case true =>
    have HR := Lib.hid (hq rfl)
    have HU := Lib.hid (fun wx => unquote_c T (by omega) wx)
    clear hq hg hbd hwg HFF hws hmx
    obtain ⟨q, hq⟩ : ∃ q, q = unquote (us T) := ⟨_, rfl⟩
    rw [← hq] at HU HR
    clear hq
    go_enter Tryz.func59, Tryz.ntmps59
    go_wp2
    go_step3
    go_wp2_with (first | (go_at_call 50; refine (HTR.out _).mono ?_; rintro e wx ⟨rfl, rfl⟩) | (go_at_call 104; refine (HP.out _).mono ?_; rintro e wx ⟨rfl, rfl⟩) | (go_at_call 105; refine (HU.out _).mono ?_; rintro e w1 ⟨rfl, hC1⟩))
    try rw [Exit.noGoto_ret]
    go_ret2
    exact ⟨ret_sb (by rw [HR.out]) (by rw [HR.out]), hC1⟩
  case false =>
    have HG := Lib.hid (fun h => hg rfl h)
    have HBD := Lib.hid (fun x hx c hc hb => hbd rfl x hx c hc hb)
    have HSM := Lib.hid (fun h => (show sumJ (wrdS T) + (wrdS T).length ≤ 1099511627776 by rw [hwg h rfl]; simp at hws; omega))
    have HMX := Lib.hid hmx
    clear hq hg hbd hwg hws hmx
    obtain ⟨WS, hWS⟩ : ∃ x, x = wrdS T := ⟨_, rfl⟩
    rw [← hWS] at HFF HG HBD HSM HMX
    clear hWS
    go_enter Tryz.func59, Tryz.ntmps59
    go_wp2
    go_step3
    go_wp2_with (first | (go_at_call 50; refine (HTR.out _).mono ?_; rintro e wx ⟨rfl, rfl⟩) | (go_at_call 104; refine (HP.out _).mono ?_; rintro e wx ⟨rfl, rfl⟩) | (go_at_call 106; refine (HFF.out _).mono ?_; rintro e w1 ⟨A, rfl, hV, hB1⟩))
    have HC := Lib.hid (fun (j : Nat) (hj : j < WS.length) => (show w1.cell? ⟨A, j, none⟩ = some (.string (bs WS[j])) from by
      rcases hV.cases with ⟨⟨_, _, e⟩, h⟩ | ⟨b, off, c, e, _, _, _, h⟩
      · rw [h] at hj; cases hj
      · injection e with e; injection e with e; injection e with e1 e2
        have := h j hj
        rw [← e1, ← e2, Nat.zero_add] at this; exact this))
    have HJ := Lib.hid (fun h => join_c (.slice (some ⟨A, 0, none⟩) WS.length WS.length) WS w1 hV (HSM.out h))
    have HJ0 := Lib.hid (join_c (.slice none 0 0) [] w1 (.inl ⟨⟨_, _, rfl⟩, rfl, rfl⟩) (by decide))
    have hnn := fun w a n c n' c' => Go.run_neq_slice_nil_any (P := Tryz.prog) w 30 9 a n c n' c' Tryz.underlying30
    have hWl : WS.length ≤ 9223372036854775807 := by
      rcases hV.form with ⟨_, _, _, h, _⟩
      unfold maxLen at h; omega
    have HB1 := Lib.hid hB1
    clear hV hB1
    go_step3
    go_wp2
    go_loopg [6, 26] WS.length (fun g v i wx => ∃ k : Nat, k + g = WS.length ∧ v = (.slice (some ⟨A, 0, none⟩) WS.length WS.length) ∧ i = .int .i64 k ∧ wx = w1 ∧ Hid (∀ x ∈ WS.take k, allc 8 x = true))
    case atStart => exact ⟨0, by omega, rfl, rfl, rfl, Lib.hid (fun x hx => by simp at hx)⟩
    case round =>
      obtain ⟨k, hkg, rfl, rfl, rfl, HA⟩ := hrel
      by_cases hlt : k < WS.length
      · cases gk with
        | zero => omega
        | succ g1 =>
          have x0 := HC.out k hlt
          have hXl := HMX.out _ (List.getElem_mem hlt)
          have HBk := Lib.hid (fun (c : UInt8) (hc : c ∈ WS[k]) (hb : testc 8 c = false) => HBD.out WS[k] (List.getElem_mem hlt) c hc hb)
          have HNX := Lib.hid (fun (h : allc 8 WS[k] = true) => (show ∀ x ∈ WS.take (k + 1), allc 8 x = true from fun x hx => by
            rw [List.take_succ_eq_append_getElem hlt] at hx
            rcases List.mem_append.1 hx with hx | hx
            · exact HA.out x hx
            · rw [List.mem_singleton.1 hx]; exact h))
          obtain ⟨X, hX⟩ : ∃ X, X = bs WS[k] := ⟨_, rfl⟩
          have hXs : X.size ≤ 4294967280 := by rw [hX, size_bs]; exact hXl
          have uX : WS[k] = us X := by rw [hX, us_bs]
          rw [← hX] at x0
          rw [uX] at HBk HNX
          have k0 : (0 : Int) ≤ (k : Int) := by omega
          have k1 : (k : Int) < (WS.length : Int) := by omega
          clear hX uX hXl
          go_wp2
          go_loopg [6, 32] X.size (fun g v j wx => ∃ m : Nat, m + g = X.size ∧ v = (.slice (some ⟨A, 0, none⟩) WS.length WS.length) ∧ j = .int .i64 m ∧ wx = wr ∧ Hid (((us X).take m).all (testc 8) = true))
          case atStart => exact ⟨0, by omega, rfl, rfl, rfl, Lib.hid rfl⟩
          case round =>
            obtain ⟨m, hmg, rfl, rfl, rfl, HM⟩ := hrel
            by_cases hlt2 : m < X.size
            · cases gk with
              | zero => omega
              | succ g2 =>
                have hst := take_us X m hlt2
                have hmem := List.mem_of_getElem? (get_us X m hlt2)
                cases hb : testc 8 X[m]
                · obtain ⟨hR, hT0⟩ := HBk.out X[m] hmem hb
                  have HR := Lib.hid hR
                  have pE := ne_empty hT0
                  have pF := isEmpty_f hT0
                  have t1 : (bits BinOp.and IntKind.i64 (cls X[m]) 8 == 0) = true := by unfold testc at hb; simpa using hb
                  clear hR hT0 hmem hst hb
                  go_wp2_with (first | (go_at_call 92; refine (class_c _ _).mono ?_; rintro e w' ⟨rfl, rfl⟩) | (go_at_call 108; refine (HJ0.out).mono ?_; rintro e w2 ⟨rfl, hC2⟩))
                  try rw [Exit.noGoto_ret]
                  go_ret2
                  exact ⟨ret_sb (by rw [HR.out]; rfl) (by rw [HR.out]), HB1.out.trans (hC2.mono HB1.out.size)⟩
                · have t1 : (bits BinOp.and IntKind.i64 (cls X[m]) 8 == 0) = false := by unfold testc at hb; simpa using hb
                  have HM2 := Lib.hid (show ((us X).take (m + 1)).all (testc 8) = true by rw [hst, List.all_append, HM.out]; simp [hb])
                  clear hmem hst hb
                  go_wp2_with (go_at_call 92; refine (class_c _ _).mono ?_; rintro e w' ⟨rfl, rfl⟩)
                  go_roundg g2
                  case measure => omega
                  case rel => exact ⟨m + 1, by omega, rfl, by go_num, rfl, HM2⟩
            · have hM := HM.out
              rw [List.take_of_length_le (by rw [length_us]; omega)] at hM
              have HA2 := Lib.hid (HNX.out hM)
              clear hM
              go_wp2
              go_roundg g1
              case measure => omega
              case rel => exact ⟨k + 1, by omega, rfl, by go_num, rfl, HA2⟩
      · have hA := HA.out
        rw [List.take_of_length_le (by omega)] at hA
        have HR := Lib.hid (HG.out hA)
        have HJ1 := Lib.hid (HJ.out hA)
        clear hA
        go_wp2_with (first | (go_at_call 108; refine (HJ1.out).mono ?_; rintro e w2 ⟨rfl, hC2⟩))
        try rw [Exit.noGoto_ret]
        go_ret2
        exact ⟨ret_sb (by rw [HR.out]) (by rw [HR.out]), HB1.out.trans (hC2.mono HB1.out.size)⟩

end Go.Proofs.YtipdiddjhimdcaaGreatDoor

namespace Go.Proofs.YtipdiddjhimdcaaGreatDoor
set_option linter.unusedSimpArgs false
set_option linter.unusedVariables false
open Go.RowKit Go.Sort

set_option maxHeartbeats 1600000 in
theorem openR_c (s : ByteArray) (hs : s.size ≤ 4294967280) (w : World) :
    Calls Tryz.prog 131 #[.string s] w fun e w' => e = .returned (.int .i64 (angS (us s))) ∧ w = w' := by
  have HST := Lib.hid (fun b k h hp => ang_step s b k h hp)
  go_enter Tryz.func131, Tryz.ntmps131
  go_wp2
  go_loop [3, 4] (fun q i => ∃ (b : Bool) (k : Nat), k ≤ s.size + 1 ∧ q = .bool b ∧ i = .int .i64 k ∧ Hid (angS (us s) = angGo b ((us s).drop k) (k : Int))) (fun _ i => s.size + 1 - (intOf i).toNat)
  case atStart => exact ⟨false, 0, Nat.zero_le _, rfl, rfl, Lib.hid rfl⟩
  case round =>
    obtain ⟨b, k, hk, rfl, rfl, HP⟩ := hrel
    by_cases hlt : k < s.size
    · have k0 : (0 : Int) ≤ (k : Int) := by omega
      have k1 : (k : Int) < (s.size : Int) := by omega
      rcases HST.out b k hlt HP.out with ⟨rfl, h1, hn⟩ | ⟨h1, h2, hn⟩ | ⟨h1, h2, rfl, h3, hn⟩ | ⟨h1, h2, h3, hn⟩
      · have HN := Lib.hid hn
        clear hn HP
        go_wp2
        go_round
        case rel => exact ⟨true, k + 2, by omega, rfl, by go_num, HN⟩
        case measure => simp [intOf]; omega
      · have HN := Lib.hid hn
        have h5 : ((s[k].toNat : Int) == 60) = false := by have := h2; simp at this ⊢; omega
        clear hn HP
        cases b
        all_goals
          first | (have h4 : ((s[k].toNat : Int) == 92) = false := by simpa using h1) | skip
          clear h1
          go_wp2
          go_round
          case rel => exact ⟨_, k + 1, by omega, rfl, by go_num, HN⟩
          case measure => simp [intOf]; omega
      · have HN := Lib.hid hn
        clear hn HP h1
        go_wp2
        go_ret
        exact ⟨ret_int HN.out.symm, rfl⟩
      · have HN := Lib.hid hn
        clear hn HP
        cases b
        · have h4 : ((s[k].toNat : Int) == 60) = false := by simpa using h3
          clear h1 h3
          go_wp2
          go_round
          case rel => exact ⟨_, k + 1, by omega, rfl, by go_num, HN⟩
          case measure => simp [intOf]; omega
        · have h4 : ((s[k].toNat : Int) == 92) = false := by simpa using h1
          clear h1 h3
          cases h6 : ((s[k].toNat : Int) == 60)
          all_goals
            go_wp2
            go_round
            case rel => exact ⟨_, k + 1, by omega, rfl, by go_num, HN⟩
            case measure => simp [intOf]; omega
    · have HN := Lib.hid (show angS (us s) = -1 by rw [HP.out, drop_us_end s k (by omega), ang_end])
      clear HP
      go_wp2
      go_ret
      exact ⟨ret_int HN.out.symm, rfl⟩

theorem clsB_eq (c : UInt8) : (cls c == 32) = blank c := by
  have := all_bytes (fun c => (cls c == 32) = blank c) (by decide +kernel) c
  exact this
theorem dsp1 {T : ByteArray} {L : List (List UInt8)} {cur : List UInt8} {k : Nat} (h : k < T.size) (hw : wordsGo [] (us T) = L ++ wordsGo cur ((us T).drop k)) (hb : blank T[k] = true) (hc : cur ≠ []) :
    wordsGo [] (us T) = (L ++ [cur]) ++ wordsGo [] ((us T).drop (k + 1)) := by rw [hw, drop_us T k h, wordsGo, if_pos hb, if_neg hc]; simp
theorem dsp2 {T : ByteArray} {L : List (List UInt8)} {k : Nat} (h : k < T.size) (hw : wordsGo [] (us T) = L ++ wordsGo [] ((us T).drop k)) (hb : blank T[k] = true) :
    wordsGo [] (us T) = L ++ wordsGo [] ((us T).drop (k + 1)) := by rw [hw, drop_us T k h, wordsGo, if_pos hb, if_pos rfl]
theorem dsp3 {T : ByteArray} {L : List (List UInt8)} {cur : List UInt8} {k : Nat} (h : k < T.size) (hw : wordsGo [] (us T) = L ++ wordsGo cur ((us T).drop k)) (hb : blank T[k] = false) :
    wordsGo [] (us T) = L ++ wordsGo (cur ++ [T[k]]) ((us T).drop (k + 1)) := by rw [hw, drop_us T k h, wordsGo, if_neg (by rw [hb]; decide)]
theorem dsp_all {T : ByteArray} {k : Nat} (h : k < T.size) (hp : ((us T).take k).all dispb = true) (hb : dispb T[k] = true) : ((us T).take (k + 1)).all dispb = true := by
  rw [take_us T k h, List.all_append, hp]; simp [hb]
theorem dsp_no {T : ByteArray} {k : Nat} (h : k < T.size) (ho : opens 34 (us T) = false) (hb : dispb T[k] = false) : optB (dispT (us T)) = ([], false) := by
  unfold dispT
  rw [ho, if_neg (by decide), if_neg]
  · rfl
  · intro ha
    have := List.all_eq_true.1 ha T[k] (List.mem_of_getElem? (get_us T k h))
    rw [hb] at this; cases this
theorem dsp_yes {T : ByteArray} {k : Nat} (h : T.size ≤ k) (ho : opens 34 (us T) = false) (hp : ((us T).take k).all dispb = true) : optB (dispT (us T)) = (glue [32] (wordsGo [] (us T)), true) := by
  rw [List.take_of_length_le (by rw [length_us]; exact h)] at hp
  unfold dispT
  rw [ho, if_neg (by decide), if_pos hp]; rfl
theorem glue1_len : ∀ L : List (List UInt8), (glue [32] L).length ≤ sumJ L + L.length
  | [] => Nat.zero_le _
  | [x] => by rw [glue]; simp [sumJ]
  | x :: y :: l => by
    have := glue1_len (y :: l)
    rw [glue_cons [32] x (y :: l) (by simp), List.length_append, List.length_append, sumJ]
    simp at this ⊢; omega
theorem opens_cases (T : ByteArray) : (T.size = 0 ∧ opens 34 (us T) = false) ∨ (∃ h : 0 < T.size, (((T[0]'h).toNat : Int) == 34) = opens 34 (us T)) := by
  by_cases h : 0 < T.size
  · refine .inr ⟨h, ?_⟩
    have := drop_us T 0 h
    rw [List.drop_zero] at this
    rw [this, opens, Bool.eq_iff_iff, beq_iff_eq]
    first | (rw [beq_iff_eq]; omega) | (simp; omega) | (rw [decide_eq_true_iff]; omega)
  · refine .inl ⟨by omega, ?_⟩
    have : us T = [] := List.eq_nil_of_length_eq_zero (by rw [length_us]; omega)
    rw [this]; rfl

set_option maxRecDepth 100000 in
set_option maxHeartbeats 6400000 in
theorem dispR_c (s : ByteArray) (hs : s.size ≤ 4294967280) (w : World) :
    Calls Tryz.prog 132 #[.string s] w fun e w' => e = .returned (.tuple #[.string (bs (optB (displayS (us s))).1), .bool (optB (displayS (us s))).2]) ∧ Below w.heap.size w w' := by
  have HTR := Lib.hid (fun wx => trimR_c s (by omega) wx)
  have htl := trim_le (us s)
  rw [length_us] at htl
  have hdd : displayS (us s) = dispT (trim (us s)) := rfl
  obtain ⟨T, hT⟩ : ∃ T, T = bs (trim (us s)) := ⟨_, rfl⟩
  have uT : trim (us s) = us T := by rw [hT, us_bs]
  have sT : T.size ≤ 4294967280 := by rw [hT, size_bs]; omega
  rw [← hT] at HTR
  rw [hdd, uT]
  clear hT uT hdd htl hs
  have hq := disp_quote (us T)
  have hyes := fun k h ho hp => dsp_yes (T := T) (k := k) h ho hp
  have hno := fun k h ho hb => dsp_no (T := T) (k := k) h ho hb
  have hoc := opens_cases T
  have hws := words_sum (us T) []
  have hgl := glue1_len (wordsGo [] (us T))
  rw [length_us] at hws
  obtain ⟨R, hR⟩ : ∃ R, R = optB (dispT (us T)) := ⟨_, rfl⟩
  rw [← hR] at hq hyes hno ⊢
  clear hR
  obtain ⟨o, ho⟩ : ∃ o, o = opens 34 (us T) := ⟨_, rfl⟩
  rw [← ho] at hq hyes hno hoc
  clear ho
  cases o
  case true =>
    rcases hoc with ⟨_, h⟩ | ⟨h0, hc⟩
    · cases h
    have HR := Lib.hid (hq rfl)
    have HU := Lib.hid (fun wx => unquoteR_c T (by omega) wx)
    clear hq hyes hno hws hgl
    obtain ⟨q, hq⟩ : ∃ q, q = unquote (us T) := ⟨_, rfl⟩
    rw [← hq] at HU HR
    clear hq
    have k1 : (0 : Int) < (T.size : Int) := by omega
    go_enter Tryz.func132, Tryz.ntmps132
    go_wp2_with (first | (go_at_call 130; refine (HTR.out _).mono ?_; rintro e wx ⟨rfl, rfl⟩) | (go_at_call 172; refine (HU.out _).mono ?_; rintro e w1 ⟨rfl, hC1⟩))
    go_ret2
    exact ⟨ret_sb (by rw [HR.out]) (by rw [HR.out]), hC1⟩
  case false =>
    have HYES := Lib.hid (fun k h hp => hyes k h rfl hp)
    have HNO := Lib.hid (fun k h hb => hno k h rfl hb)
    have hB00 : Below w.heap.size w w := Below.refl _ _
    have hgb : (glue [32] (wordsGo [] (us T))).length ≤ 17179869184 := by
      refine Nat.le_trans hgl ?_
      simp at hws
      omega
    have HGB := Lib.hid hgb
    have HWL := Lib.hid (show (wordsGo [] (us T)).length ≤ 8589934592 by simp at hws; omega)
    clear hq hyes hno hws hgl hgb
    have hrest : ∃ b : Bool, (T.size = 0 ∧ b = true) ∨ (b = false ∧ ∃ h : 0 < T.size, (((T[0]'h).toNat : Int) == 34) = false) := by
      rcases hoc with ⟨h, _⟩ | ⟨h, h2⟩
      · exact ⟨true, .inl ⟨h, rfl⟩⟩
      · exact ⟨false, .inr ⟨rfl, h, h2⟩⟩
    clear hoc
    obtain ⟨b, hb⟩ := hrest
    rcases hb with ⟨hz, rfl⟩ | ⟨rfl, hz, hz2⟩
    · go_enter Tryz.func132, Tryz.ntmps132
      go_wp2_with (go_at_call 130; refine (HTR.out _).mono ?_; rintro e wx ⟨rfl, rfl⟩)
      (try clear hz2)
      go_loopw [6, 7, 8] (fun v x i wr => ∃ (k : Nat) (L : List (List UInt8)) (W : ByteArray), k ≤ T.size ∧ i = .int .i64 k ∧ x = .string W ∧ Strs wr w.heap.size 9 v L ∧ Below w.heap.size w wr ∧ Hid (wordsGo [] (us T) = L ++ wordsGo (us W) ((us T).drop k)) ∧ Hid (((us T).take k).all dispb = true) ∧ W.size + L.length ≤ k) (fun _ _ i _ => T.size - (intOf i).toNat)
      case atStart => exact ⟨0, [], ⟨#[]⟩, Nat.zero_le _, rfl, rfl, Strs.nil _ _ _, hB00, Lib.hid rfl, Lib.hid rfl, by decide⟩
      case round =>
        obtain ⟨k, L, W, hk, rfl, rfl, hown, hB, HW, HP, hsz⟩ := hrel
        have hlt : ¬ k < T.size := by omega
        have HE := Lib.hid (HYES.out k (by omega) HP.out)
        have HL : wordsGo [] (us T) = L ++ (if us W = [] then [] else [us W]) := by rw [HW.out, drop_us_end T k (by omega), wordsGo]
        by_cases hw0 : W.size = 0
        · have hW0 : us W = [] := List.eq_nil_of_length_eq_zero (by rw [length_us]; exact hw0)
          rw [if_pos hW0, List.append_nil] at HL
          obtain rfl := eq_empty hw0
          have HGL := Lib.hid (fun wx v hv => glue_c v L ⟨#[32]⟩ wx hv (by rw [show us ⟨#[32]⟩ = [32] from rfl, ← HL]; have := HGB.out; omega))
          rw [show us ⟨#[32]⟩ = [32] from rfl, ← HL] at HGL
          have hrd := hown.read
          rw [← HL] at hrd
          clear HL hw0 hW0 HW HP
          go_wp2_with (go_at_call 173; refine (HGL.out _ _ hrd).mono ?_; rintro e w4 ⟨rfl, hC4⟩)
          go_ret2
          exact ⟨ret_sb (by rw [HE.out]) (by rw [HE.out]), hB.trans (hC4.mono hB.size)⟩
        · exfalso; omega
    · go_enter Tryz.func132, Tryz.ntmps132
      go_wp2_with (go_at_call 130; refine (HTR.out _).mono ?_; rintro e wx ⟨rfl, rfl⟩)
      (try clear hz2)
      go_loopw [6, 7, 8] (fun v x i wr => ∃ (k : Nat) (L : List (List UInt8)) (W : ByteArray), k ≤ T.size ∧ i = .int .i64 k ∧ x = .string W ∧ Strs wr w.heap.size 9 v L ∧ Below w.heap.size w wr ∧ Hid (wordsGo [] (us T) = L ++ wordsGo (us W) ((us T).drop k)) ∧ Hid (((us T).take k).all dispb = true) ∧ W.size + L.length ≤ k) (fun _ _ i _ => T.size - (intOf i).toNat)
      case atStart => exact ⟨0, [], ⟨#[]⟩, Nat.zero_le _, rfl, rfl, Strs.nil _ _ _, hB00, Lib.hid rfl, Lib.hid rfl, by decide⟩
      case round =>
        obtain ⟨k, L, W, hk, rfl, rfl, hown, hB, HW, HP, hsz⟩ := hrel
        by_cases hlt : k < T.size
        · have k0 : (0 : Int) ≤ (k : Int) := by omega
          have k1 : (k : Int) < (T.size : Int) := by omega
          have hcb := clsB_eq T[k]
          have hdb : dispb T[k] = (blank T[k] || !(bits BinOp.and IntKind.i64 (cls T[k]) 8 == 0)) := rfl
          have hal := fun h => dsp_all hlt HP.out h
          have hno := HNO.out k hlt
          have d1 := fun hb hc => dsp1 hlt HW.out hb hc
          have d3 := fun hb => dsp3 hlt HW.out hb
          have d2 := fun (h0 : us W = []) hb => dsp2 (L := L) hlt (h0 ▸ HW.out) hb
          rw [hdb] at hal hno
          clear hdb HP HW
          obtain ⟨bl, hbl⟩ : ∃ b, b = blank T[k] := ⟨_, rfl⟩
          rw [← hbl] at hcb hal hno d1 d2 d3
          clear hbl
          cases bl with
          | true =>
            have HAL := Lib.hid (hal rfl)
            by_cases hw0 : W.size = 0
            · have hW0 : us W = [] := List.eq_nil_of_length_eq_zero (by rw [length_us]; exact hw0)
              have HD := Lib.hid (d2 hW0 rfl)
              obtain rfl := eq_empty hw0
              clear d1 d2 d3 hal hno hw0 hW0
              go_wp2_with (go_at_call 162; refine (classR_c _ _).mono ?_; rintro e w' ⟨rfl, rfl⟩)
              go_roundw
              case rel => exact ⟨k + 1, L, ⟨#[]⟩, by omega, by go_num, rfl, hown, hB, HD, HAL, by have h1 : ByteArray.empty.size = 0 := rfl; show 0 + L.length ≤ _; omega⟩
              case measure => simp [intOf]; omega
            · have hW0 : us W ≠ [] := fun h => hw0 (by rw [← length_us, h]; rfl)
              have HD := Lib.hid (d1 rfl hW0)
              have pE := ne_empty hw0
              have pF := isEmpty_f hw0
              clear d1 d2 d3 hal hno hW0
              go_wp2_with (first | (go_at_call 162; refine (classR_c _ _).mono ?_; rintro e w' ⟨rfl, rfl⟩) | (at_builtin; refine wpList_appS1 (us W) rfl rfl rfl Tryz.underlying30 infoS rfl rfl hown hB (Nat.le_refl _) ?_ ?_; (focus omega); intro v1 w3 ho1 hb1))
              go_roundw
              case rel => exact ⟨k + 1, _, ⟨#[]⟩, by omega, by go_num, rfl, ho1, hb1, HD, HAL, by rw [List.length_append]; show 0 + (L.length + 1) ≤ _; omega⟩
              case measure => simp [intOf]; omega
          | false =>
            have HD := Lib.hid (d3 rfl)
            cases h8 : (bits BinOp.and IntKind.i64 (cls T[k]) 8 == 0) with
            | true =>
              rw [h8] at hno
              have HN := Lib.hid (hno rfl)
              clear d1 d2 d3 hal hno
              go_wp2_with (go_at_call 162; refine (classR_c _ _).mono ?_; rintro e w' ⟨rfl, rfl⟩)
              go_ret2
              exact ⟨by rw [HN.out]; rfl, hB⟩
            | false =>
              rw [h8] at hal
              have HAL := Lib.hid (hal rfl)
              clear d1 d2 d3 hal hno
              go_wp2_with (go_at_call 162; refine (classR_c _ _).mono ?_; rintro e w' ⟨rfl, rfl⟩)
              go_roundw
              case rel => exact ⟨k + 1, L, _, by omega, by go_num, rfl, hown, hB, Lib.hid (by rw [HD.out, us_append, us_extract]; congr 2; rw [drop_us T k hlt]; simp), HAL, by rw [ByteArray.size_append, size_extract _ _ _ (by omega)]; omega⟩
              case measure => simp [intOf]; omega
        · have HE := Lib.hid (HYES.out k (by omega) HP.out)
          have HL : wordsGo [] (us T) = L ++ (if us W = [] then [] else [us W]) := by rw [HW.out, drop_us_end T k (by omega), wordsGo]
          by_cases hw0 : W.size = 0
          · have hW0 : us W = [] := List.eq_nil_of_length_eq_zero (by rw [length_us]; exact hw0)
            rw [if_pos hW0, List.append_nil] at HL
            obtain rfl := eq_empty hw0
            have HGL := Lib.hid (fun wx v hv => glue_c v L ⟨#[32]⟩ wx hv (by rw [show us ⟨#[32]⟩ = [32] from rfl, ← HL]; have := HGB.out; omega))
            rw [show us ⟨#[32]⟩ = [32] from rfl, ← HL] at HGL
            have hrd := hown.read
            rw [← HL] at hrd
            clear HL hw0 hW0 HW HP
            go_wp2_with (go_at_call 173; refine (HGL.out _ _ hrd).mono ?_; rintro e w4 ⟨rfl, hC4⟩)
            go_ret2
            exact ⟨ret_sb (by rw [HE.out]) (by rw [HE.out]), hB.trans (hC4.mono hB.size)⟩
          · have hW0 : us W ≠ [] := fun h => hw0 (by rw [← length_us, h]; rfl)
            rw [if_neg hW0] at HL
            have pE := ne_empty hw0
            have pF := isEmpty_f hw0
            have HGL := Lib.hid (fun wx v hv => glue_c v (L ++ [us W]) ⟨#[32]⟩ wx hv (by rw [show us ⟨#[32]⟩ = [32] from rfl, ← HL]; have := HGB.out; omega))
            rw [show us ⟨#[32]⟩ = [32] from rfl, ← HL] at HGL
            have HLh := Lib.hid HL
            clear HL hW0 HW HP
            go_wp2_with (first | (at_builtin; refine wpList_appS1 (us W) rfl rfl rfl Tryz.underlying30 infoS rfl rfl hown hB (Nat.le_refl _) ?_ ?_; (focus omega); intro v1 w3 ho1 hb1) | (go_at_call 173; refine (HGL.out _ _ (HLh.out.symm ▸ ho1.read)).mono ?_; rintro e w4 ⟨rfl, hC4⟩))
            go_ret2
            exact ⟨ret_sb (by rw [HE.out]) (by rw [HE.out]), hb1.trans (hC4.mono hb1.size)⟩

end Go.Proofs.YtipdiddjhimdcaaGreatDoor

namespace Go.Proofs.YtipdiddjhimdcaaGreatDoor
set_option linter.unusedSimpArgs false
set_option linter.unusedVariables false
open Go.RowKit

theorem blk_f8 {w : World} {g : Nat} {t : TypeId} {a b c d e f i j : Value} (h : Blk w g t #[a, b, c, d, e, f, i, j]) :
    w.cell? ⟨g, 0, none⟩ = some a ∧ w.cell? ⟨g, 1, none⟩ = some b ∧ w.cell? ⟨g, 2, none⟩ = some c ∧ w.cell? ⟨g, 3, none⟩ = some d ∧ w.cell? ⟨g, 4, none⟩ = some e ∧ w.cell? ⟨g, 5, none⟩ = some f ∧ w.cell? ⟨g, 6, none⟩ = some i ∧ w.cell? ⟨g, 7, none⟩ = some j :=
  ⟨boxedCell h 0, boxedCell h 1, boxedCell h 2, boxedCell h 3, boxedCell h 4, boxedCell h 5, boxedCell h 6, boxedCell h 7⟩
theorem checkA_cases (D S U H : ByteArray) (n : Int) (F G P : List Prm) :
    (((quote (us D)).2 != 0) = true ∧ checkA (⟨us D, ⟨us S, us U, us H, n, F, G⟩, P⟩ : Adr) = 50) ∨ (((quote (us D)).2 != 0) = false ∧ 64 < D.size ∧ checkA (⟨us D, ⟨us S, us U, us H, n, F, G⟩, P⟩ : Adr) = 50) ∨
    (((quote (us D)).2 != 0) = false ∧ ¬ 64 < D.size ∧ (checkU ⟨us S, us U, us H, n, F, G⟩ != 0) = true ∧ checkA (⟨us D, ⟨us S, us U, us H, n, F, G⟩, P⟩ : Adr) = checkU ⟨us S, us U, us H, n, F, G⟩) ∨
    (((quote (us D)).2 != 0) = false ∧ ¬ 64 < D.size ∧ checkU ⟨us S, us U, us H, n, F, G⟩ = 0 ∧ checkA (⟨us D, ⟨us S, us U, us H, n, F, G⟩, P⟩ : Adr) = (textS P).2) := by
  unfold checkA
  dsimp only
  rw [length_us]
  by_cases h1 : (quote (us D)).2 = 0
  · have e1 : ((quote (us D)).2 != 0) = false := by simpa using h1
    refine .inr ?_
    by_cases h2 : 64 < D.size
    · exact .inl ⟨e1, h2, if_pos (.inr h2)⟩
    · refine .inr ?_
      rw [if_neg (by rintro (h | h); exact h h1; exact h2 h)]
      by_cases h3 : checkU ⟨us S, us U, us H, n, F, G⟩ = 0
      · exact .inr ⟨e1, h2, h3, by rw [if_neg (fun h => h h3)]⟩
      · exact .inl ⟨e1, h2, by simpa using h3, by rw [if_pos h3]⟩
  · exact .inl ⟨by simpa using h1, if_pos (.inl h1)⟩

set_option maxRecDepth 100000 in
set_option maxHeartbeats 6400000 in
theorem checkA_c (D S U H : ByteArray) (n : Int) (u1 u2 u3 : Value) (F G P : List Prm) (hD : D.size ≤ 4294967280) (hS : S.size ≤ 4294967280) (hH : H.size ≤ 4294967280) (w : World) (hm : Ml w) (h1 : RPrms w u1 F) (h2 : RPrms w u2 G) (h3 : RPrms w u3 P) (hb1 : ∀ p ∈ F, p.name.length ≤ 4294967280 ∧ p.value.length ≤ 4294967280) (hb2 : ∀ p ∈ G, p.name.length ≤ 4294967280 ∧ p.value.length ≤ 4294967280) (hb3 : ∀ p ∈ P, p.name.length ≤ 4294967280 ∧ p.value.length ≤ 4294967280) :
    Calls Tryz.prog 36 #[.agg #[.string D, .string S, .string U, .string H, .int .i64 n, u1, u2, u3]] w fun e w' => e = .returned (.int .i64 (checkA (⟨us D, ⟨us S, us U, us H, n, F, G⟩, P⟩ : Adr))) ∧ Below w.heap.size w w' := by
  have HM := Lib.hid hm
  have HU1 := Lib.hid h1
  have HU2 := Lib.hid h2
  have HU3 := Lib.hid h3
  obtain ⟨ao, ac, rfl, _, _⟩ := h1.form
  obtain ⟨bo, bc, rfl, _, _⟩ := h2.form
  obtain ⟨co, cc, rfl, _, _⟩ := h3.form
  have HQ := Lib.hid (fun wx => quote_c D (by omega) wx)
  have HU := Lib.hid (fun wx hx h1 h2 => checkU_c S U H n (.slice ao F.length ac) (.slice bo G.length bc) F G hS hH wx hx h1 h2 hb1 hb2)
  have HT := Lib.hid (fun wx hx hv => text_c (.slice co P.length cc) P wx hx hv hb3)
  have hcs := checkA_cases D S U H n F G P
  obtain ⟨q, hq⟩ : ∃ q, q = quote (us D) := ⟨_, rfl⟩
  obtain ⟨cu, hcu⟩ : ∃ q, q = checkU ⟨us S, us U, us H, n, F, G⟩ := ⟨_, rfl⟩
  obtain ⟨t, ht⟩ : ∃ q, q = textS P := ⟨_, rfl⟩
  obtain ⟨C, hC⟩ : ∃ C, C = checkA (⟨us D, ⟨us S, us U, us H, n, F, G⟩, P⟩ : Adr) := ⟨_, rfl⟩
  rw [← hq] at HQ hcs
  rw [← hcu] at HU hcs
  rw [← ht] at HT hcs
  rw [← hC] at hcs ⊢
  clear hq hcu ht hC h1 h2 h3 hb1 hb2 hb3 hm
  obtain ⟨qs, qe⟩ := q
  obtain ⟨ts, te⟩ := t
  dsimp only at hcs HQ HT
  have hB0 : Below w.heap.size w (w.alloc (.cells #[.string D, .string S, .string U, .string H, .int .i64 n, .slice ao F.length ac, .slice bo G.length bc, .slice co P.length cc] 26)) := (Below.refl _ _).alloc (Nat.le_refl _) _
  have bm0 := Blk.new w 26 #[.string D, .string S, .string U, .string H, .int .i64 n, .slice ao F.length ac, .slice bo G.length bc, .slice co P.length cc]
  obtain ⟨w0, hw0⟩ : ∃ w0, w0 = w.alloc (.cells #[.string D, .string S, .string U, .string H, .int .i64 n, .slice ao F.length ac, .slice bo G.length bc, .slice co P.length cc] 26) := ⟨_, rfl⟩
  rw [← hw0] at hB0 bm0
  have HX := Lib.hid (fun (wx : World) (h : Below w0.heap.size w0 wx) => (show Blk wx w.heap.size 26 #[.string D, .string S, .string U, .string H, .int .i64 n, .slice ao F.length ac, .slice bo G.length bc, .slice co P.length cc] ∧ Below w.heap.size w wx ∧ Ml wx ∧ RPrms wx (.slice ao F.length ac) F ∧ RPrms wx (.slice bo G.length bc) G ∧ RPrms wx (.slice co P.length cc) P from by
    have hx := hB0.trans (h.mono hB0.size)
    exact ⟨bm0.call h, hx, HM.out.below hx, HU1.out.below hx (Nat.le_refl _), HU2.out.below hx (Nat.le_refl _), HU3.out.below hx (Nat.le_refl _)⟩))
  have HW0 := Lib.hid hw0
  have hZ : Below w0.heap.size w0 w0 := Below.refl _ _
  obtain ⟨bm, hBB, hMM, hU1, hU2, hU3⟩ := HX.out _ hZ
  obtain ⟨p0, p1, p2, p3, p4, p5, p6, p7⟩ := blk_f8 bm
  clear hw0 bm0 hB0
  rcases hcs with ⟨c1, rfl⟩ | ⟨c1, c2, rfl⟩ | ⟨c1, c2, c3, rfl⟩ | ⟨c1, c2, rfl, rfl⟩
  all_goals
    go_enter Tryz.func36, Tryz.ntmps36
    go_wp2_with (first | (go_at_call 80; (try rw [← HW0.out]); refine (HQ.out _).mono ?_; rintro e w1 ⟨rfl, hC1⟩; have hZ := hZ.trans (hC1.mono hZ.size); obtain ⟨bm, hBB, hMM, hU1, hU2, hU3⟩ := HX.out _ hZ; obtain ⟨p0, p1, p2, p3, p4, p5, p6, p7⟩ := blk_f8 bm) | (go_at_call 81; refine (HU.out _ hMM hU1 hU2).mono ?_; rintro e w2 ⟨rfl, hC2⟩; have hZ := hZ.trans (hC2.mono hZ.size); obtain ⟨bm, hBB, hMM, hU1, hU2, hU3⟩ := HX.out _ hZ; obtain ⟨p0, p1, p2, p3, p4, p5, p6, p7⟩ := blk_f8 bm) | (go_at_call 82; refine (HT.out _ hMM hU3).mono ?_; rintro e w3 ⟨rfl, hC3⟩; have hZ := hZ.trans (hC3.mono hZ.size); obtain ⟨bm, hBB, hMM, hU1, hU2, hU3⟩ := HX.out _ hZ; obtain ⟨p0, p1, p2, p3, p4, p5, p6, p7⟩ := blk_f8 bm))
    go_ret
    exact ⟨by first | rfl | exact ret_int (by assumption), hBB⟩

end Go.Proofs.YtipdiddjhimdcaaGreatDoor

