/- Contracts of Go functions, and plain laws. No condition but those told. -/
import Derived.Test.YtipdiddjhimdcaaGreatDoorR04
import Derived.Test.YtipdiddjhimdcaaGreatDoorR03
import Derived.Laws.RangeAny
import Derived.Laws.Runes
import Derived.Deep.LoopGhost
import Derived.Lib.IndexAny
import Derived.Lib.OthersKept
import Derived.Shelf.Strings.AsciiSet
import Derived.Lib.QuietBelow
import Derived.BigQuiet
set_option linter.unusedSimpArgs false
set_option linter.unusedVariables false
set_option maxRecDepth 100000
namespace Go.Proofs.YtipdiddjhimdcaaGreatDoor
open Go.RowKit
structure Hdr where
 name : List UInt8
 value : List UInt8
deriving DecidableEq
structure Mg where
 method : List UInt8
 target : List UInt8
 status : Int
 reason : List UInt8
 hdrs : List Hdr
 body : List UInt8
deriving DecidableEq
def mg0 : Mg := ⟨[], [], 0, [], [], []⟩
def nVia : List UInt8 := [86, 105, 97]
def nFrom : List UInt8 := [70, 114, 111, 109]
def nTo : List UInt8 := [84, 111]
def nCallId : List UInt8 := [67, 97, 108, 108, 45, 73, 68]
def nContact : List UInt8 := [67, 111, 110, 116, 97, 99, 116]
def nCEnc : List UInt8 := [67, 111, 110, 116, 101, 110, 116, 45, 69, 110, 99, 111, 100, 105, 110, 103]
def nCLen : List UInt8 := [67, 111, 110, 116, 101, 110, 116, 45, 76, 101, 110, 103, 116, 104]
def nCTyp : List UInt8 := [67, 111, 110, 116, 101, 110, 116, 45, 84, 121, 112, 101]
def nSubject : List UInt8 := [83, 117, 98, 106, 101, 99, 116]
def nSupp : List UInt8 := [83, 117, 112, 112, 111, 114, 116, 101, 100]
def nEvent : List UInt8 := [69, 118, 101, 110, 116]
def nAllow : List UInt8 := [65, 108, 108, 111, 119, 45, 69, 118, 101, 110, 116, 115]
def ver : List UInt8 := [83, 73, 80, 47, 50, 46, 48]
def shorts : List UInt8 := [118, 102, 116, 105, 109, 101, 108, 99, 115, 107, 111, 117]
def longs : List (List UInt8) := [nVia, nFrom, nTo, nCallId, nContact, nCEnc, nCLen, nCTyp, nSubject, nSupp, nEvent, nAllow]
def longGo (c : UInt8) : List UInt8 → List (List UInt8) → Option (List UInt8)
 | s :: r, l :: t => if c.toNat = s.toNat then some l else longGo c r t
 | _, _ => none
def longS (l : List UInt8) : List UInt8 :=
 match l with
 | [c] => (longGo (low c) shorts longs).getD l
 | _ => l
def vis (c : UInt8) : Bool := c.toNat == 9 || (decide (32 ≤ c.toNat) && !(c.toNat == 127))
def visS (l : List UInt8) : Bool := l.all vis
def valS (l : List UInt8) : Bool := visS l && (trim l == l)
def targS (l : List UInt8) : Bool := !(l == []) && visS l && l.all (fun c => !blank c)
def firstS (m : Mg) : Bool :=
 if m.method = [] then decide (100 ≤ m.status) && decide (m.status ≤ 699) && valS m.reason && (m.target == [])
 else token m.method && targS m.target && (m.status == 0) && (m.reason == [])
def isLen (l : List UInt8) : Bool := same l nCLen
def badH (h : Hdr) : Bool := !(token h.name) || !(longS h.name == h.name) || isLen h.name || !(valS h.value)
def checkS (m : Mg) : Int := if firstS m = false then 60 else if 64 < m.hdrs.length then 4 else if m.hdrs.any badH = true then 61 else 0
def lineH (h : Hdr) : List UInt8 := h.name ++ 58 :: 32 :: (h.value ++ [13, 10])
def startL (m : Mg) : List UInt8 :=
 if m.method = [] then ver ++ 32 :: (digits m.status ++ 32 :: m.reason) else m.method ++ 32 :: (m.target ++ 32 :: ver)
def tailT (b : List UInt8) : List UInt8 := nCLen ++ 58 :: 32 :: (digits b.length ++ 13 :: 10 :: 13 :: 10 :: b)
def textM (m : Mg) : List UInt8 := startL m ++ 13 :: 10 :: (m.hdrs.flatMap lineH ++ tailT m.body)
def printM (m : Mg) : List UInt8 × Int :=
 if checkS m ≠ 0 then ([], checkS m) else if 4096 < (textM m).length then ([], 2) else (textM m, 0)
/-! ### The plain laws -/
theorem longS_two (l : List UInt8) (h : l.length ≠ 1) : longS l = l := by
 unfold longS
 match l, h with
 | [], _ => rfl
 | [_], h => exact absurd rfl h
 | _ :: _ :: _, _ => rfl
section
open Go.RowKit
theorem mem_glue (sep : List UInt8) : ∀ (L : List (List UInt8)) (p : List UInt8), p ∈ L → p.length ≤ (glue sep L).length
 | [], p, h => by cases h
 | [x], p, h => by rw [List.mem_singleton.1 h]; exact ρ _
 | x :: y :: r, p, h => by
  rw [glue]
  rcases List.mem_cons.1 h with rfl | h
  ·simp
  ·have := mem_glue sep (y :: r) p h
   simp; omega
theorem parts_bd (c : UInt8) (l p : List UInt8) (h : p ∈ parts l c) : p.length ≤ l.length := by
 have := mem_glue [c] (parts l c) p h
 rwa [glue_parts] at this
theorem parts_ne (c : UInt8) (l : List UInt8) : parts l c ≠ [] := partsGo_ne c l false false []
theorem RStrs.tailA {w : World} {b off cap : Nat} {x : List UInt8} {L : List (List UInt8)} (h : RStrs w (.slice (some ⟨b, off, none⟩) (x :: L).length cap) (x :: L)) (hc : cap = 1) : RStrs w (.slice (some ⟨b, off, none⟩) L.length 0) L := by
 rcases h.cases with ⟨⟨_, _, h1⟩, _⟩ | ⟨b', off', cap', h1, h2, h2', h3, h4⟩
 ·injection h1 with _ h1 _; simp at h1
 ·injection h1 with e1 e2 e3
  injection e1 with e1
  injection e1 with eb eo
  subst eb eo e3 hc
  rw [List.length_cons] at h2
  have hL : L = [] := List.eq_nil_of_length_eq_zero (by omega)
  subst hL
  exact .inr ⟨b, off, 0, rfl, Nat.zero_le _, Nat.zero_le _, h3, fun j u hj => by simp at hj⟩
theorem RStrs.tailB {w : World} {b off cap : Nat} {x : List UInt8} {L : List (List UInt8)} (h : RStrs w (.slice (some ⟨b, off, none⟩) (x :: L).length cap) (x :: L)) : RStrs w (.slice (some ⟨b, off + 1, none⟩) L.length (cap - 1)) L := by
 rcases h.cases with ⟨⟨_, _, h1⟩, _⟩ | ⟨b', off', cap', h1, h2, h2', h3, h4⟩
 ·injection h1 with _ h1 _; simp at h1
 ·injection h1 with e1 e2 e3
  injection e1 with e1
  injection e1 with eb eo
  subst eb eo e3
  rw [List.length_cons] at h2
  refine .inr ⟨b, off + 1, cap - 1, rfl, by omega, by omega, h3, fun j u hj => ?_⟩
  have hj' : j < L.length := by have := (List.getElem?_eq_some_iff.1 hj).1; simpa using this
  have := h4 (j + 1) (by simpa using hj')
  rw [show off + 1 + j = off + (j + 1) from by omega, this]
  rw [List.getElem?_map, List.getElem?_eq_getElem hj'] at hj
  simpa [sv] using hj
end
theorem fields_may : ∀ (Ps : List (List UInt8)) (done F : List Prm), fieldsGo done Ps = some F → ∃ L, F = done ++ L ∧ L.length = Ps.length ∧ (textGo done L).isSome = true
 | [], done, F, h => by rw [fieldsGo] at h; injection h with h; exact ⟨[], by rw [← h]; simp, rfl, rfl⟩
 | x :: r, done, F, h => by
  rw [fieldsGo] at h
  cases hf : field done x with
  | none => rw [hf] at h; cases h
  | some q =>
   rw [hf] at h
   obtain ⟨L, h1, h2, h3⟩ := fields_may r (done ++ [q]) F h
   have hm : mayS done q = true := by
    unfold field fieldOf at hf
    split at hf
    ·split at hf
     ·unfold chk at hf; split at hf
      ·injection hf with hf; rw [← hf]; assumption
      ·cases hf
     ·cases hf
    ·split at hf
     ·cases hf
     ·unfold chk at hf; split at hf
      ·injection hf with hf; rw [← hf]; assumption
      ·cases hf
   refine ⟨q :: L, by rw [h1]; simp, by simp [h2], ?_⟩
   rw [textGo, if_pos hm]
   cases hq : textGo (done ++ [q]) L with
   | none => rw [hq] at h3; cases h3
   | some t => rfl
theorem fields_textS (Ps : List (List UInt8)) (h : (fieldsS Ps).2 = 0) : (textS (fieldsS Ps).1).2 = 0 := by
 unfold fieldsS at h ⊢
 split at h
 ·exact absurd h (by decide)
 ·rename_i hl
  rw [if_neg hl]
  cases hq : fieldsGo [] Ps with
  | none => rw [hq] at h; exact absurd h (by decide)
  | some F =>
   obtain ⟨L, h3, h4, h5⟩ := fields_may _ _ _ hq
   rw [List.nil_append] at h3
   subst h3
   show (textS F).2 = 0
   unfold textS
   rw [if_neg (by omega)]
   cases ht : textGo [] F with
   | none => rw [ht] at h5; cases h5
   | some t => rfl
theorem number_bdV (l : List UInt8) (most : Int) (h0 : 0 ≤ most) (h : (number l most).2 = 0) : 0 ≤ (number l most).1 ∧ (number l most).1 ≤ most := by
 by_cases hd : l = [] ∨ allc 1 l = false
 ·unfold number at h; rw [if_pos hd] at h; exact absurd h (by decide)
 ·have hb : l ≠ [] := fun h => hd (.inl h)
  have ha : l.all isDig = true := by
   rw [← allc_dig]
   cases h : allc 1 l
   ·exact absurd (.inr h) hd
   ·rfl
  rw [number_val most h0 l hb ha] at h ⊢
  split at h
  ·rename_i hv
   rw [if_pos hv]
   exact ⟨valF_ge l 0 ha (Int.le_refl _), hv⟩
  ·exact absurd h (by decide)
structure Hop where
 host : List UInt8
 port : Int
 ps : List Prm
deriving DecidableEq
def nProto : List UInt8 := [83, 73, 80, 47, 50, 46, 48, 47, 85, 68, 80]
def endW : Bool → List UInt8 → Nat
 | _, [] => 0
 | i, c :: r => if i = true ∨ c.toNat ≠ 58 then endW (c.toNat == 91 || (i && !(c.toNat == 93))) r + 1 else 0
def whereS (l : List UInt8) : (List UInt8 × Int) × Int :=
 if hostS (lowr (l.take (endW false l))) = false then (([], 0), 32)
 else if l.length ≤ endW false l then ((lowr (l.take (endW false l)), 0), 0)
 else if (number (l.drop (endW false l + 1)) 65535).2 = 0 ∧ 0 < (number (l.drop (endW false l + 1)) 65535).1 then ((lowr (l.take (endW false l)), (number (l.drop (endW false l + 1)) 65535).1), 0)
 else (([], 0), 33)
def checkV (v : Hop) : Int := if hostS v.host = false then 32 else if v.port < 0 ∨ 65535 < v.port then 33 else (textS v.ps).2
def byV (v : Hop) : List UInt8 := v.host ++ 58 :: digits (if v.port = 0 then 5060 else v.port)
theorem endW_le : ∀ (l : List UInt8) (i : Bool), endW i l ≤ l.length
 | [], i => Nat.zero_le _
 | c :: r, i => by
  rw [endW]
  split
  ·have := endW_le r (c.toNat == 91 || (i && !(c.toNat == 93))); rw [List.length_cons]; omega
  ·exact Nat.zero_le _
theorem host_low (h : List UInt8) (hh : hostS h = true) : lowr h = h ∧ h ≠ [] ∧ h.length ≤ 64 := by
 have := hh
 unfold hostS at this
 simp only [Bool.and_eq_true, decide_eq_true_eq, beq_iff_eq] at this
 exact ⟨this.1.2, fun e => by rw [e] at this; simp at this, this.1.1.2⟩
theorem check_parts (v : Hop) (h : checkV v = 0) : hostS v.host = true ∧ 0 ≤ v.port ∧ v.port ≤ 65535 ∧ (textS v.ps).2 = 0 := by
 unfold checkV at h
 cases hh : hostS v.host
 ·rw [hh, if_pos rfl] at h; exact absurd h (by decide)
 ·rw [hh, if_neg (by decide)] at h
  split at h
  ·exact absurd h (by decide)
  ·exact ⟨rfl, by omega, by omega, h⟩
theorem where_ok (l : List UInt8) (h : (whereS l).2 = 0) : hostS (whereS l).1.1 = true ∧ 0 ≤ (whereS l).1.2 ∧ (whereS l).1.2 ≤ 65535 := by
 unfold whereS at h ⊢
 cases hh : hostS (lowr (l.take (endW false l)))
 ·rw [hh, if_pos rfl] at h; exact absurd h (by decide)
 ·rw [hh, if_neg (by decide)] at h
  rw [if_neg (by decide)]
  split
  ·exact ⟨hh, Int.le_refl _, (show (0 : Int) ≤ 65535 by decide)⟩
  ·rename_i hl
   rw [if_neg hl] at h
   split
   ·rename_i hn
    have := number_bdV _ 65535 (by decide) hn.1
    exact ⟨hh, this.1, this.2⟩
   ·rename_i hn
    rw [if_neg hn] at h; exact absurd h (by decide)
theorem port_c (s : ByteArray) (hs : s.size ≤ 9223372036854775807) (w : World) :
  Calls Tryz.prog 161 #[.string s] w fun e w' => e = .returned (.tuple #[.int .i64 (number (us s) 65535).1, .bool (((number (us s) 65535).2 == 0) && decide (0 < (number (us s) 65535).1))]) ∧ w = w' := by
 have HN := κ (fun wx => number_c s hs 65535 (by decide) (by decide) wx)
 obtain ⟨p, hp⟩ : ∃ p, p = number (us s) 65535 := ⟨_, rfl⟩
 rw [← hp] at HN ⊢
 clear hp
 obtain ⟨n, e⟩ := p
 dsimp only at HN ⊢
 cases he : (e == 0)
 all_goals
  go_enter Tryz.func161, Tryz.ntmps161
  go_wp2_with (go_at_call 53; refine (HN.out _).mono ?_; rintro e w' ⟨rfl, rfl⟩)
  go_ret2
  refine ⟨?_, rfl⟩
  first | rfl | simp
theorem endW_step (s : ByteArray) (k : Nat) (i : Bool) (h : k < s.size) (hc : i = true ∨ s[k].toNat ≠ 58) (hp : endW false (us s) = endW i ((us s).drop k) + k) :
  endW false (us s) = endW (s[k].toNat == 91 || (i && !(s[k].toNat == 93))) ((us s).drop (k + 1)) + (k + 1) := by
 rw [hp, drop_us s k h, endW, if_pos hc]; omega
theorem endW_stop (s : ByteArray) (k : Nat) (h : k < s.size) (hc : s[k].toNat = 58) (hp : endW false (us s) = endW false ((us s).drop k) + k) : endW false (us s) = k := by
 rw [hp, drop_us s k h, endW, if_neg (by rintro (h | h); cases h; exact h hc)]; omega
theorem endW_end (s : ByteArray) (k : Nat) (i : Bool) (hk : k ≤ s.size) (h : ¬ k < s.size) (hp : endW false (us s) = endW i ((us s).drop k) + k) : endW false (us s) = k := by
 rw [hp, drop_us_end s k (by omega), endW]; omega
def WhrIs (s : ByteArray) (E : Nat) (L : List UInt8) (p : Int × Int) (R : (List UInt8 × Int) × Int) : Prop :=
 (hostS L = false ∧ R = (([], 0), 32)) ∨ (hostS L = true ∧ E = s.size ∧ R = ((L, 0), 0)) ∨ (hostS L = true ∧ E < s.size ∧ ((p.2 == 0) && decide (0 < p.1)) = true ∧ R = ((L, p.1), 0)) ∨
  (hostS L = true ∧ E < s.size ∧ ((p.2 == 0) && decide (0 < p.1)) = false ∧ R = (([], 0), 33))
theorem where_is (s : ByteArray) : endW false (us s) ≤ s.size ∧ WhrIs s (endW false (us s)) (lowr ((us s).take (endW false (us s)))) (number ((us s).drop (endW false (us s) + 1)) 65535) (whereS (us s)) := by
 have hl := endW_le (us s) false
 rw [length_us] at hl
 refine ⟨hl, ?_⟩
 unfold WhrIs whereS
 rw [length_us]
 obtain ⟨E, hE⟩ : ∃ E, E = endW false (us s) := ⟨_, rfl⟩
 rw [← hE] at hl ⊢
 cases hh : hostS (lowr ((us s).take E))
 ·exact .inl ⟨rfl, if_pos rfl⟩
 ·rw [if_neg (by decide)]
  by_cases h : s.size ≤ E
  ·exact .inr (.inl ⟨rfl, by omega, if_pos h⟩)
  ·rw [if_neg h]
   obtain ⟨p, hp⟩ : ∃ p, p = number ((us s).drop (E + 1)) 65535 := ⟨_, rfl⟩
   rw [← hp]
   by_cases hn : p.2 = 0 ∧ 0 < p.1
   ·exact .inr (.inr (.inl ⟨rfl, by omega, by simp [hn.1, hn.2], if_pos hn⟩))
   ·refine .inr (.inr (.inr ⟨rfl, by omega, ?_, if_neg hn⟩))
    cases hq : (p.2 == 0)
    ·rfl
    ·rw [Bool.true_and, decide_eq_false_iff_not]
     exact fun h0 => hn ⟨by simpa using hq, h0⟩
set_option maxHeartbeats 6400000 in
theorem where_c' (s : ByteArray) (hs : s.size ≤ 4294967280) (w : World) (hm : Ml w) :
  Calls Tryz.prog 112 #[.string s] w fun e w' => e = .returned (.tuple #[.string (bs (whereS (us s)).1.1), .int .i64 (whereS (us s)).1.2, .int .i64 (whereS (us s)).2]) ∧ Below w.heap.size w w' := by
 obtain ⟨hEs, hW⟩ := where_is s
 obtain ⟨E, hE⟩ : ∃ E, E = endW false (us s) := ⟨_, rfl⟩
 rw [← hE] at hEs hW
 have HM := κ hm
 have hlow : (lowr ((us s).take E)).length ≤ 4294967280 := by unfold lowr; rw [List.length_map, List.length_take, length_us]; omega
 have HL := κ (fun wx => lowerP_c (s.extract 0 E) (by rw [size_extract _ _ _ hEs]; omega) wx)
 rw [us_extract, Nat.sub_zero, List.drop_zero] at HL
 obtain ⟨L, hL⟩ : ∃ L, L = lowr ((us s).take E) := ⟨_, rfl⟩
 rw [← hL] at hW HL hlow
 obtain ⟨T, hT⟩ : ∃ T, T = bs L := ⟨_, rfl⟩
 have hTs : T.size ≤ 4294967280 := by rw [hT, size_bs]; exact hlow
 have HH := κ (fun wx (hx : Ml wx) => host_c T hTs wx hx)
 have uT : us T = L := by rw [hT, us_bs]
 rw [uT] at HH
 rw [← hT] at HL
 have HTd := κ hT
 have HP := κ (fun wx => port_c (s.extract (E + 1) s.size) (by (rw [← length_us, us_tail, List.length_drop, length_us]; omega)) wx)
 rw [us_tail] at HP
 obtain ⟨p, hp⟩ : ∃ p, p = number ((us s).drop (E + 1)) 65535 := ⟨_, rfl⟩
 rw [← hp] at hW HP
 obtain ⟨R, hR⟩ : ∃ R, R = whereS (us s) := ⟨_, rfl⟩
 rw [← hR] at hW ⊢
 have HE := κ hE
 have hRf : Below w.heap.size w w := Below.refl _ _
 obtain ⟨pn, pe⟩ := p
 dsimp only at hW HP
 clear hE hL hlow hT uT hp hR hm
 unfold WhrIs at hW
 dsimp only at hW
 have HW := κ hW
 clear hW
 go_enter Tryz.func112, Tryz.ntmps112
 go_wp2
 go_loop [5, 6] (fun i b => ∃ (k : Nat) (q : Bool), k ≤ s.size ∧ i = .int .i64 k ∧ b = .bool q ∧ endW false (us s) = endW q ((us s).drop k) + k) (fun i _ => s.size - (intOf i).toNat)
 case atStart => exact ⟨0, false, Nat.zero_le _, rfl, rfl, rfl⟩
 case round =>
  obtain ⟨k, q, hk, rfl, rfl, hp⟩ := hrel
  by_cases hlt : k < s.size
  ·by_cases hc : q = true ∨ s[k].toNat ≠ 58
   ·obtain ⟨x, hx⟩ : ∃ x, ((s[k].toNat : Int) == 91) = x := ⟨_, rfl⟩
    obtain ⟨y, hy⟩ : ∃ y, ((s[k].toNat : Int) == 93) = y := ⟨_, rfl⟩
    have hz : ((s[k].toNat : Int) != 93) = !y := by rw [← hy]; rfl
    have HB := κ (show endW false (us s) = endW (x || (q && !y)) ((us s).drop (k + 1)) + (k + 1) by rw [endW_step s k q hlt hc hp, show (s[k].toNat == 91) = x by (rw [← hx, Bool.eq_iff_iff, beq_iff_eq, beq_iff_eq]; omega), show (s[k].toNat == 93) = y by (rw [← hy, Bool.eq_iff_iff, beq_iff_eq, beq_iff_eq]; omega)])
    have h1 : q = false → ((s[k].toNat : Int) != 58) = true := by (rintro rfl; rcases hc with h | h; cases h; simp; omega)
    have hxy : (x && y) = false := by cases x <;> cases y <;> first | rfl | (rw [beq_iff_eq] at hx hy; omega)
    clear hc hp
    cases q
    ·have t1 := h1 rfl
     clear h1
     cases x <;> cases y <;> first | exact absurd hxy (by decide) | (clear hxy; go_wp2; go_round; (case rel => exact ⟨k + 1, _, by omega, by go_num, rfl, HB.out⟩); (case measure => simp [intOf]; omega))
    ·clear h1
     cases x <;> cases y <;> first | exact absurd hxy (by decide) | (clear hxy; go_wp2; go_round; (case rel => exact ⟨k + 1, _, by omega, by go_num, rfl, HB.out⟩); (case measure => simp [intOf]; omega))
   ·obtain ⟨rfl, h58⟩ : q = false ∧ s[k].toNat = 58 := by
     cases q
     ·exact ⟨rfl, by (by_cases h : s[k].toNat = 58; exact h; exact absurd (.inr h) hc)⟩
     ·exact absurd (.inl rfl) hc
    have hEk : E = k := HE.out.trans (endW_stop s k hlt h58 hp)
    have t1 : ((s[k].toNat : Int) != 58) = false := by simp [h58]
    clear hc h58 hp
    subst hEk
    have t5 : ((E : Int) == (s.size : Int)) = false := by (rw [beq_eq_false_iff_ne]; omega)
    rcases HW.out with ⟨hh, rfl⟩ | ⟨hh, hE2, rfl⟩ | ⟨hh, hE2, hn, rfl⟩ | ⟨hh, hE2, hn, rfl⟩ <;> rw [hh] at HH <;> (try omega) <;> clear hh HW
    all_goals first | (rw [hn] at HP; clear hn hE2) | (clear hE2) | skip
    all_goals (go_wp2_with (first | (go_at_call 96; refine (HL.out _).mono ?_; rintro e w1 ⟨rfl, hB1⟩) | (go_at_call 141; refine (HH.out _ (HM.out.below hB1)).mono ?_; rintro e w2 ⟨rfl, hC2⟩; have hB2 := hB1.trans (hC2.mono hB1.size)) | (go_at_call 161; refine (HP.out _).mono ?_; rintro e w3 ⟨rfl, rfl⟩)); go_ret3; exact ⟨by first | rfl | (rw [HTd.out]; rfl), by first | exact hB2 | exact hB1⟩)
  ·have hEk : E = k := HE.out.trans (endW_end s k q hk hlt hp)
   clear hp
   subst hEk
   have t5 : ((E : Int) == (s.size : Int)) = true := by (rw [beq_iff_eq]; omega)
   rcases HW.out with ⟨hh, rfl⟩ | ⟨hh, hE2, rfl⟩ | ⟨hh, hE2, hn, rfl⟩ | ⟨hh, hE2, hn, rfl⟩ <;> rw [hh] at HH <;> (try omega) <;> clear hh HW
   all_goals first | (rw [hn] at HP; clear hn hE2) | (clear hE2) | skip
   all_goals (go_wp2_with (first | (go_at_call 96; refine (HL.out _).mono ?_; rintro e w1 ⟨rfl, hB1⟩) | (go_at_call 141; refine (HH.out _ (HM.out.below hB1)).mono ?_; rintro e w2 ⟨rfl, hC2⟩; have hB2 := hB1.trans (hC2.mono hB1.size)) | (go_at_call 161; refine (HP.out _).mono ?_; rintro e w3 ⟨rfl, rfl⟩)); go_ret3; exact ⟨by first | rfl | (rw [HTd.out]; rfl), by first | exact hB2 | exact hB1⟩)
end Go.Proofs.YtipdiddjhimdcaaGreatDoor
namespace Go.Proofs.YtipdiddjhimdcaaGreatDoor
open Go.RowKit Go.Sort
def hv (v : Hop) (u : Value) : Value := .agg #[sv v.host, .int .i64 v.port, u]
theorem regrownV {W wq : World} (h : ∃ p : Regrown, wq = grow (redrawn W p.d) p.os) : Below W.heap.size W wq := by
 obtain ⟨p, rfl⟩ := h; exact below_regrown W p.d p.os
theorem ret_s {s : ByteArray} {l : List UInt8} (h : us s = l) : Ending.returned (.string s) = .returned (.string (bs l)) := by rw [← h, bs_us]
set_option maxHeartbeats 1600000 in
theorem byV_c (N : ByteArray) (x : Int) (u : Value) (F : List Prm) (hN : N.size ≤ 4294967280) (hx0 : -9223372036854775808 ≤ x) (hx1 : x ≤ 9223372036854775807) (w : World) (hu : RPrms w u F) :
  Calls Tryz.prog 71 #[.agg #[.string N, .int .i64 x, u]] w fun e w' => e = .returned (.string (bs (byV ⟨us N, x, F⟩))) ∧ Below w.heap.size w w' := by
 obtain ⟨ao, cap, rfl, _, _⟩ := hu.form
 clear hu
 have hdl : ∀ y : Int, (digits y).length ≤ 20 := by
  intro y
  have h0 : ∀ f m, (digF f m).length ≤ f := by
   intro f
   induction f with
   | zero => intro m; exact ρ _
   | succ f ih => intro m; rw [digF]; split <;> simp; have := ih (m / 10); omega
  unfold digits
  split
  ·decide
  ·exact h0 20 _
 have hB0 : Below w.heap.size w (w.alloc (.cells #[.string N, .int .i64 x, .slice ao F.length cap] 87)) := (Below.refl _ _).alloc (ρ _) _
 have bm := Blk.new w 87 #[.string N, .int .i64 x, .slice ao F.length cap]
 obtain ⟨w0, hw0⟩ : ∃ w0, w0 = w.alloc (.cells #[.string N, .int .i64 x, .slice ao F.length cap] 87) := ⟨_, rfl⟩
 rw [← hw0] at hB0 bm
 have HW0 := κ hw0
 clear hw0
 obtain ⟨p0, p1, p2, _, _, _, _⟩ := bm.f3
 by_cases hz : x = 0
 ·have t1 : (x == 0) = true := by simp [hz]
  have hl := hdl 5060
  obtain ⟨D, hD⟩ : ∃ D, D = bs (digits 5060) := ⟨_, rfl⟩
  have uD : digits 5060 = us D := by rw [hD, us_bs]
  have sD : D.size ≤ 20 := by rw [hD, size_bs]; exact hl
  have HTX := κ (show byV ⟨us N, x, F⟩ = us N ++ 58 :: us D by unfold byV; dsimp only; rw [if_pos hz, uD])
  have cD := fun d os => Calls.regrown_of (digits_c 5060 (by omega) (by omega) (grow (redrawn w0 d) os))
  rw [← hD] at cD
  have q0 := cell_regrown p0
  clear hz hl hD uD hdl
  go_enter Tryz.func71, Tryz.ntmps71
  go_wp2
  rw [← HW0.out]
  refine wp_region_quiet_below (by kernel_rfl) (by kernel_rfl) ?_
  repeat (first | go_big_quiet_step (with_reducible exact cD _ _) | quiet_step (with_reducible exact cD _ _))
  refine wpQuiet_nil ?_
  intro wq hw'
  have hBq := regrownV hw'
  clear hw' cD q0
  go_wp2
  go_ret
  refine ⟨?_, hB0.trans (hBq.mono hB0.size)⟩
  rw [HTX.out]
  exact ret_s (by simp [us])
 ·have t1 : (x == 0) = false := by simp [hz]
  have hl := hdl x
  obtain ⟨D, hD⟩ : ∃ D, D = bs (digits x) := ⟨_, rfl⟩
  have uD : digits x = us D := by rw [hD, us_bs]
  have sD : D.size ≤ 20 := by rw [hD, size_bs]; exact hl
  have HTX := κ (show byV ⟨us N, x, F⟩ = us N ++ 58 :: us D by unfold byV; dsimp only; rw [if_neg hz, uD])
  have cD := fun d os => Calls.regrown_of (digits_c x (by omega) (by omega) (grow (redrawn w0 d) os))
  rw [← hD] at cD
  have q0 := cell_regrown p0
  clear hz hl hD uD hdl
  go_enter Tryz.func71, Tryz.ntmps71
  go_wp2
  rw [← HW0.out]
  refine wp_region_quiet_below (by kernel_rfl) (by kernel_rfl) ?_
  repeat (first | go_big_quiet_step (with_reducible exact cD _ _) | quiet_step (with_reducible exact cD _ _))
  refine wpQuiet_nil ?_
  intro wq hw'
  have hBq := regrownV hw'
  clear hw' cD q0
  go_wp2
  go_ret
  refine ⟨?_, hB0.trans (hBq.mono hB0.size)⟩
  rw [HTX.out]
  exact ret_s (by simp [us])
end Go.Proofs.YtipdiddjhimdcaaGreatDoor
