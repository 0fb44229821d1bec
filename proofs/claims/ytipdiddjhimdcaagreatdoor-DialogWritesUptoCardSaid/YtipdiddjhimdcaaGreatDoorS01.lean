/- Contracts of Go functions, and plain laws. No condition but those told. -/
import Derived.Test.YtipdiddjhimdcaaGreatDoorB16
import Derived.WalkKit
import Derived.Lib.IndexEntry
import Derived.WalkSpells
import Derived.WalkLawsBesides
import Derived.Lib.Hide
import Derived.Deep.QuietTactic
import Derived.BigQuiet
import Derived.WalkSmall
import Derived.Lib.ConvBytes
import Derived.Laws.IdiomStrings
import Derived.Deep.RegionLaw
import Derived.Lib.AppendStr
import Derived.Lib.IndexBytes
import Derived.Laws.StructEq
import Derived.Test.YtipdiddjhimdcaaGreatDoorShelf
import Derived.Lib.Builder
import Derived.Lib.UnsafeStr
import Derived.Laws.Externs
set_option linter.unusedSimpArgs false
set_option linter.unusedVariables false
set_option maxRecDepth 100000
namespace Go.Proofs.YtipdiddjhimdcaaGreatDoor
section
open Go.RowKit
def ebyte (keep : List UInt8) (c : UInt8) : List UInt8 :=
 if c.toNat ≠ 37 ∧ (testc 16 c = true ∨ hasb keep c = true) then [c] else [37, hexd (c.toNat / 16), hexd (c.toNat % 16)]
def escape (l keep : List UInt8) : List UInt8 := l.flatMap (ebyte keep)
end
section
open Go.RowKit
section
variable {P : Program} {ops : Array Oper} {rest : List Oper} {o : Oper} {a : Act} {Q : Exit → Act → World → Prop}
theorem step_appB3 {K : Act → World → Prop} {E' : Prop} {wE w : World} {base : Nat} {e t : TypeId} {v : Value} {l : List UInt8} {s x : Operand} {E F G : Int} (c d f : UInt8) (hE : E = (c.toNat : Int)) (hF : F = (d.toNat : Int)) (hG : G = (f.toNat : Int))
  (hgd : o.guard = none) (ho : o.op = .call { callee := .builtin .append, args := #[s, x], argTypes := #[t, t] })
  (ht : P.underlying t = some (.slice e)) (hi : infoIs P e (.int .u8 0) 1 1)
  (hx : a.eval x = .slice (some ⟨w.heap.size, 0, none⟩) 3 3) (hs : a.eval s = v) (hown : Byt w base e v l) (hB : Below base wE w) (hbase : base ≤ wE.heap.size)
  (hbd : l.length + 3 ≤ 140737488355328)
  (h : ∀ v' w', Byt w' base e v' (l ++ [c, d, f]) → Below base wE w' → K (a.put o.dst v') w') :
  if Region.wanted o (yielded ops a.tmps) = true then Oper.wp P o a (w.alloc (.cells #[.int .u8 E, .int .u8 F, .int .u8 G] e)) K Q else E' := by
 subst hE hF hG
 exact step_of hgd (op_appB [c, d, f] ho ht hi hx hs hown hB hbase hbd h)
end
end
section
open Go.RowKit
end
section
open Go.RowKit
end
section
open Go.RowKit
end
section
open Go.RowKit
end
section
open Go.RowKit
end
section
open Go.RowKit
theorem hasb_drop (s : ByteArray) (c : UInt8) (k : Nat) (h : k < s.size) : hasb ((us s).drop k) c = (s[k].toNat == c.toNat || hasb ((us s).drop (k + 1)) c) := by
 rw [drop_us s k h]; rfl
set_option maxHeartbeats 400000 in
theorem in_c (s : ByteArray) (hs : s.size ≤ 9223372036854775807) (c : UInt8) (w : World) :
  Calls Tryz.prog 144 #[.string s, .int .u8 c.toNat] w fun e w' => e = .returned (.bool (hasb (us s) c)) ∧ w = w' := by
 go_enter Tryz.func144, Tryz.ntmps144
 go_wp2
 go_loop [8] (fun i => ∃ k : Nat, k ≤ s.size ∧ i = .int .i64 k ∧ hasb ((us s).drop k) c = hasb (us s) c) (fun i => s.size - (intOf i).toNat)
 case atStart => exact ⟨0, Nat.zero_le _, rfl, rfl⟩
 case round =>
  obtain ⟨k, hk, rfl, hb⟩ := hrel
  have HB := κ hb; clear hb
  by_cases hlt : k < s.size
  ·have hd := κ (hasb_drop s c k hlt)
   go_wp2
   ·go_ret
    rename_i h _
    refine ⟨ret_bool ?_, rfl⟩
    rw [← HB.out, hd.out]; simp at h; simp; omega
   ·go_round
    case rel => exact ⟨k + 1, by omega, by go_num, by rename_i h; rw [← HB.out, hd.out]; simp at h; simp; omega⟩
    case measure => simp [intOf]; omega
  ·go_wp2
   go_ret
   refine ⟨ret_bool ?_, rfl⟩
   rw [← HB.out, drop_us_end s k (by omega)]; rfl
end
section
open Go.RowKit
/-! trimming -/
end
section
open Go.RowKit
/-! numbers -/
end
section
open Go.RowKit
theorem ebyte_len (keep : List UInt8) (c : UInt8) : (ebyte keep c).length ≤ 3 := by unfold ebyte; split <;> simp
theorem hex_and (c : UInt8) : bits BinOp.and IntKind.u8 c.toNat 15 = ((c.toNat % 16 : Nat) : Int) :=
 all_bytes (fun c => bits BinOp.and IntKind.u8 c.toNat 15 = ((c.toNat % 16 : Nat) : Int)) (by decide +kernel) c
theorem testc16 (c : UInt8) (b : Bool) (h : testc 16 c = b) : (bits BinOp.and IntKind.i64 (cls c) 16 != 0) = b := by
 rw [← h]; rfl
theorem ebyte_plain (keep : List UInt8) (c : UInt8) (h : c.toNat ≠ 37) (h' : testc 16 c = true ∨ hasb keep c = true) : ebyte keep c = [c] := by
 unfold ebyte; rw [if_pos ⟨h, h'⟩]
theorem ebyte_esc (keep : List UInt8) (c : UInt8) (h : c.toNat = 37 ∨ (testc 16 c = false ∧ hasb keep c = false)) : ebyte keep c = [37, hexd (c.toNat / 16), hexd (c.toNat % 16)] := by
 unfold ebyte; rw [if_neg]
 rintro ⟨h1, h2⟩
 rcases h with h | ⟨h3, h4⟩
 ·exact h1 h
 ·rw [h3, h4] at h2; simp at h2
theorem ebyte_cases (keep : List UInt8) (c : UInt8) :
  (((c.toNat : Int) != 37) = true ∧ testc 16 c = true ∧ ebyte keep c = [c]) ∨ (((c.toNat : Int) != 37) = true ∧ testc 16 c = false ∧ hasb keep c = true ∧ ebyte keep c = [c]) ∨
  (((c.toNat : Int) != 37) = true ∧ testc 16 c = false ∧ hasb keep c = false ∧ ebyte keep c = [37, hexd (c.toNat / 16), hexd (c.toNat % 16)]) ∨
  (((c.toNat : Int) != 37) = false ∧ ebyte keep c = [37, hexd (c.toNat / 16), hexd (c.toNat % 16)]) := by
 by_cases h : c.toNat = 37
 ·exact .inr (.inr (.inr ⟨by simp; omega, ebyte_esc keep c (.inl h)⟩))
 have hn : ((c.toNat : Int) != 37) = true := by simp; omega
 cases h1 : testc 16 c with
 | true => exact .inl ⟨hn, rfl, ebyte_plain keep c h (.inl h1)⟩
 | false =>
  cases h2 : hasb keep c with
  | true => exact .inr (.inl ⟨hn, rfl, rfl, ebyte_plain keep c h (.inr h2)⟩)
  | false => exact .inr (.inr (.inl ⟨hn, rfl, rfl, ebyte_esc keep c (.inr ⟨h1, h2⟩)⟩))
set_option maxHeartbeats 1600000 in
theorem escape_c (s t : ByteArray) (hs : s.size ≤ 35184372088832) (hkt : t.size ≤ 9223372036854775807) (w : World) :
  Calls Tryz.prog 85 #[.string s, .string t] w fun e w' => e = .returned (.string (bs (escape (us s) (us t)))) ∧ Below w.heap.size w w' := by
 go_enter Tryz.func85, Tryz.ntmps85
 go_wp2
 go_loopw [5, 10] (fun v i wr => ∃ k : Nat, k ≤ s.size ∧ i = .int .i64 k ∧ Byt wr w.heap.size 5 v (((us s).take k).flatMap (ebyte (us t))) ∧ Below w.heap.size w wr) (fun _ i _ => s.size - (intOf i).toNat)
 case atStart => exact ⟨0, Nat.zero_le _, rfl, Byt.nil _ _ _, Below.refl _ _⟩
 case round =>
  obtain ⟨k, hk, rfl, hown, hB⟩ := hrel
  have HL := κ (flat_bd s (ebyte (us t)) 3 k (ebyte_len (us t)) hk)
  by_cases hlt : k < s.size
  ·have ht := κ (flat_take s (ebyte (us t)) k hlt)
   have i1 := fun wx => sixt_run (P := Tryz.prog) Tryz.underlying9 .u8 (s[k].toNat / 16) (by have := s[k].toNat_lt; omega) (show (s[k].toNat : Int) / 16 = ((s[k].toNat / 16 : Nat) : Int) by omega) wx
   have i2 := fun wx => sixt_run (P := Tryz.prog) Tryz.underlying9 .u8 (s[k].toNat % 16) (by omega) (hex_and s[k]) wx
   rcases ebyte_cases (us t) s[k] with ⟨hp, h1, hE⟩ | ⟨hp, h1, h2, hE⟩ | ⟨hp, h1, h2, hE⟩ | ⟨hp, hE⟩
   ·have HE := κ hE
    have h1' := testc16 _ _ h1
    clear h1 hE i1 i2
    go_wp2_with (first | (go_at_call 92; refine (class_c _ _).mono ?_; rintro e w' ⟨rfl, rfl⟩) | (at_builtin; refine wpList_appB1 s[k] rfl rfl rfl Tryz.underlying140 infoB rfl rfl hown hB (ρ _) ?_ ?_; (focus (have := HL.out; omega)); intro v1 w1 ho1 hb1))
    go_roundw
    case rel => exact ⟨k + 1, by omega, by go_num, ho1.cast (by rw [ht.out, HE.out]), hb1⟩
    case measure => simp [intOf]; omega
   ·have HE := κ hE
    have h1' := testc16 _ _ h1
    clear h1 hE i1 i2
    go_wp2_with (first | (go_at_call 92; refine (class_c _ _).mono ?_; rintro e w' ⟨rfl, rfl⟩) | (go_at_call 144; refine (in_c t hkt _ _).mono ?_; rintro e w' ⟨rfl, rfl⟩) | (at_builtin; refine wpList_appB1 s[k] rfl rfl rfl Tryz.underlying140 infoB rfl rfl hown hB (ρ _) ?_ ?_; (focus (have := HL.out; omega)); intro v1 w1 ho1 hb1))
    go_roundw
    case rel => exact ⟨k + 1, by omega, by go_num, ho1.cast (by rw [ht.out, HE.out]), hb1⟩
    case measure => simp [intOf]; omega
   ·have HE := κ hE
    have h1' := testc16 _ _ h1
    clear h1 hE
    go_wp2_with (first | (go_at_call 92; refine (class_c _ _).mono ?_; rintro e w' ⟨rfl, rfl⟩) | (go_at_call 144; refine (in_c t hkt _ _).mono ?_; rintro e w' ⟨rfl, rfl⟩))
    go_region_law (refine step_appB3 37 (hexd (s[k].toNat / 16)) (hexd (s[k].toNat % 16)) rfl rfl rfl rfl rfl Tryz.underlying140 infoB rfl rfl hown.drew hB.drew (ρ _) ?_ ?_; (focus (have := HL.out; omega)); intro v1 w1 ho1 hb1)
    all_goals
     go_wp2
     go_roundw
     case rel => exact ⟨k + 1, by omega, by go_num, ho1.cast (by rw [ht.out, HE.out]), hb1⟩
     case measure => simp [intOf]; omega
   ·have HE := κ hE
    clear hE
    go_wp2
    go_region_law (refine step_appB3 37 (hexd (s[k].toNat / 16)) (hexd (s[k].toNat % 16)) rfl rfl rfl rfl rfl Tryz.underlying140 infoB rfl rfl hown.drew hB.drew (ρ _) ?_ ?_; (focus (have := HL.out; omega)); intro v1 w1 ho1 hb1)
    all_goals
     go_wp2
     go_roundw
     case rel => exact ⟨k + 1, by omega, by go_num, ho1.cast (by rw [ht.out, HE.out]), hb1⟩
     case measure => simp [intOf]; omega
  ·have hown' := κ (take_all s k (by omega))
   go_wp2_with (refine wpList_str rfl rfl Tryz.underlying140 Tryz.underlying5 Tryz.underlying9 rfl hown ?_)
   go_ret
   exact ⟨ret_bs (by rw [us_bs]; first | rfl | rw [hown'.out]; rfl), hB⟩
end
section
open Go.RowKit
end
end Go.Proofs.YtipdiddjhimdcaaGreatDoor
namespace Go.Proofs.YtipdiddjhimdcaaGreatDoor
open Go.RowKit
/-! ### The plain laws -/
section
open Go.RowKit
theorem textGo_le : ∀ (L done : List Prm) (s : List UInt8), textGo done L = some s → s.length ≤ 200 * L.length
 | [], done, s, h => by rw [textGo] at h; injection h with h; rw [← h]; exact ρ _
 | p :: r, done, s, h => by
  rw [textGo] at h
  split at h
  ·rename_i hm
   cases hq : textGo (done ++ [p]) r with
   | none => rw [hq] at h; cases h
   | some t =>
    rw [hq] at h
    injection h with h
    have h1 := textGo_le r _ t hq
    have h2 := ptext_le p (mayS_len hm).1 (mayS_len hm).2
    rw [← h, List.length_append, List.length_cons]; omega
  ·cases h
theorem textS_le (L : List Prm) : (textS L).1.length ≤ 3200 := by
 unfold textS
 split
 ·exact Nat.zero_le _
 ·cases h : textGo [] L with
  | none => exact Nat.zero_le _
  | some s => have := textGo_le L [] s h; show s.length ≤ _; omega
end
def portT (p : Int) : List UInt8 := if 0 < p then 58 :: digits p else []
def textV (v : Hop) : List UInt8 := nProto ++ 32 :: (v.host ++ (portT v.port ++ (textS v.ps).1))
def printV (v : Hop) : List UInt8 × Int := if checkV v = 0 then (textV v, 0) else ([], checkV v)
theorem portT_len (p : Int) : (portT p).length ≤ 21 := by
 unfold portT
 split
 ·have h0 : ∀ f m, (digF f m).length ≤ f := by
   intro f
   induction f with
   | zero => intro m; exact ρ _
   | succ f ih => intro m; rw [digF]; split <;> simp; have := ih (m / 10); omega
  rw [List.length_cons]
  unfold digits
  split
  ·decide
  ·have := h0 20 p.toNat; omega
 ·exact Nat.zero_le _
def pairS (p : Prm) (keep : List UInt8) : List UInt8 := escape p.name keep ++ (if p.has = true then 61 :: escape p.value keep else [])
def userT (u : List UInt8) : List UInt8 := if u = [] then [] else escape u kUsers ++ [64]
def psT (L : List Prm) : List UInt8 := L.flatMap fun p => 59 :: pairS p kParams
def hsT : List Prm → List UInt8
 | [] => []
 | p :: r => 63 :: (pairS p kHeaders ++ r.flatMap fun q => 38 :: pairS q kHeaders)
def textU (u : Uri) : List UInt8 := u.scheme ++ 58 :: (userT u.user ++ (u.host ++ (portT u.port ++ (psT u.ps ++ hsT u.hs))))
def printU (u : Uri) : List UInt8 × Int := if checkU u = 0 then (textU u, 0) else ([], checkU u)
theorem escape_le (l keep : List UInt8) : (escape l keep).length ≤ 3 * l.length := by
 unfold escape
 induction l with
 | nil => exact Nat.zero_le _
 | cons c r ih =>
  rw [List.flatMap_cons, List.length_append, List.length_cons]
  have : (ebyte keep c).length ≤ 3 := by unfold ebyte; split <;> simp
  omega
theorem pair_le (p : Prm) (keep : List UInt8) (h1 : p.name.length ≤ 64) (h2 : p.value.length ≤ 64) : (pairS p keep).length ≤ 400 := by
 have a := escape_le p.name keep
 have b := escape_le p.value keep
 unfold pairS
 split <;> simp <;> omega
theorem flat_le {α : Type} (f : α → List UInt8) (B : Nat) : ∀ L : List α, (∀ p ∈ L, (f p).length ≤ B) → (L.flatMap f).length ≤ B * L.length
 | [], _ => Nat.zero_le _
 | p :: r, h => by
  have a := h p (List.mem_cons_self ..)
  have b := flat_le f B r (fun q hq => h q (List.mem_cons_of_mem _ hq))
  rw [List.flatMap_cons, List.length_append, List.length_cons, Nat.mul_succ]; omega
theorem psT_le (L : List Prm) (h : ∀ p ∈ L, p.name.length ≤ 64 ∧ p.value.length ≤ 64) : (psT L).length ≤ 401 * L.length := by
 unfold psT
 refine flat_le _ 401 L fun p hp => ?_
 have := pair_le p kParams (h p hp).1 (h p hp).2
 rw [List.length_cons]; omega
theorem hsT_le (L : List Prm) (h : ∀ p ∈ L, p.name.length ≤ 64 ∧ p.value.length ≤ 64) : (hsT L).length ≤ 401 * L.length := by
 cases L with
 | nil => exact Nat.zero_le _
 | cons p r =>
  have a := pair_le p kHeaders (h p (List.mem_cons_self ..)).1 (h p (List.mem_cons_self ..)).2
  have b := flat_le (fun q => 38 :: pairS q kHeaders) 401 r (fun q hq => by
   have := pair_le q kHeaders (h q (List.mem_cons_of_mem _ hq)).1 (h q (List.mem_cons_of_mem _ hq)).2
   rw [List.length_cons]; omega)
  rw [hsT, List.length_cons, List.length_append, List.length_cons, Nat.mul_succ]; omega
theorem textU_le (u : Uri) (h : checkU u = 0) : (textU u).length ≤ 14000 := by
 obtain ⟨h1, h2, h3, h4, h5, h6, h7, _⟩ := checkU_parts u h
 obtain ⟨_, _, s3, _, _⟩ := scheme_facts _ h1
 have a := psT_le u.ps (fun p hp => ⟨((listU_ok h6).2 p hp).2.1, ((listU_ok h6).2 p hp).2.2.1⟩)
 have b := hsT_le u.hs (fun p hp => ⟨((listU_ok h7).2 p hp).2.1, ((listU_ok h7).2 p hp).2.2.1⟩)
 have c := (host_low _ h3).2.2
 have d := portT_len u.port
 have e : (userT u.user).length ≤ 200 := by
  unfold userT
  have := escape_le u.user kUsers
  split <;> simp <;> omega
 have f := (listU_ok h6).1
 have g := (listU_ok h7).1
 unfold textU
 rw [List.length_append, List.length_cons, List.length_append, List.length_append, List.length_append, List.length_append]
 omega
theorem pair_c (p : Prm) (K : ByteArray) (hn : p.name.length ≤ 4294967280) (hv : p.value.length ≤ 4294967280) (hK : K.size ≤ 4294967280) (w : World) :
  Calls Tryz.prog 86 #[pv p, .string K] w fun e w' => e = .returned (.string (bs (pairS p (us K)))) ∧ Below w.heap.size w w' := by
 obtain ⟨n, v, h⟩ := p
 dsimp only at hn hv
 have HE1 := κ (fun wx => escape_c (bs n) K (by rw [size_bs]; omega) (by omega) wx)
 have HE2 := κ (fun wx => escape_c (bs v) K (by rw [size_bs]; omega) (by omega) wx)
 have l1 := escape_le n (us K)
 have l2 := escape_le v (us K)
 rw [us_bs] at HE1 HE2
 have hpt : pairS ⟨n, v, h⟩ (us K) = escape n (us K) ++ (if h = true then 61 :: escape v (us K) else []) := rfl
 obtain ⟨R, hR⟩ : ∃ R, R = pairS ⟨n, v, h⟩ (us K) := ⟨_, rfl⟩
 rw [← hR] at hpt ⊢
 obtain ⟨X, hX⟩ : ∃ X, X = bs (escape n (us K)) := ⟨_, rfl⟩
 obtain ⟨Y, hY⟩ : ∃ Y, Y = bs (escape v (us K)) := ⟨_, rfl⟩
 rw [← hX] at HE1
 rw [← hY] at HE2
 have uX : escape n (us K) = us X := by rw [hX, us_bs]
 have uY : escape v (us K) = us Y := by rw [hY, us_bs]
 rw [uX, uY] at hpt
 rw [uX, length_us] at l1
 rw [uY, length_us] at l2
 unfold pv sv
 dsimp only
 obtain ⟨N, hN⟩ : ∃ N, N = bs n := ⟨_, rfl⟩
 obtain ⟨V, hV⟩ : ∃ V, V = bs v := ⟨_, rfl⟩
 rw [← hN] at HE1 ⊢
 rw [← hV] at HE2 ⊢
 have sX : X.size ≤ 12884901840 := by omega
 have sY : Y.size ≤ 12884901840 := by omega
 clear hR hX hY uX uY hN hV l1 l2 hn hv
 have hZ : Below w.heap.size w (w.alloc (.cells #[.string N, .string V, .bool h] 85)) := (Below.refl _ _).alloc (ρ _) _
 have bm := Blk.new w 85 #[.string N, .string V, .bool h]
 obtain ⟨w0, hw0⟩ : ∃ w0, w0 = w.alloc (.cells #[.string N, .string V, .bool h] 85) := ⟨_, rfl⟩
 rw [← hw0] at hZ bm
 have HW0 := κ hw0
 clear hw0
 cases h
 ·rw [if_neg (by decide), List.append_nil] at hpt
  have HPT := κ hpt
  clear hpt
  go_enter Tryz.func86, Tryz.ntmps86
  go_wp2_with (first | (go_at_call 85; (try rw [← HW0.out]); (first | ((with_reducible refine (HE1.out _).mono ?_); rintro e w1 ⟨rfl, hC1⟩) | ((with_reducible refine (HE2.out _).mono ?_); rintro e w1 ⟨rfl, hC1⟩)); have bm := bm.call hC1; obtain ⟨p0, p1, p2, _, _, _, _⟩ := bm.f3; have hZ := hZ.trans (hC1.mono hZ.size)))
  go_ret
  exact ⟨ret_bs (by rw [HPT.out]), hZ⟩
 ·rw [if_pos rfl] at hpt
  have HPT := κ hpt
  clear hpt
  go_enter Tryz.func86, Tryz.ntmps86
  go_wp2_with (first | (go_at_call 85; (try rw [← HW0.out]); (first | ((with_reducible refine (HE1.out _).mono ?_); rintro e w1 ⟨rfl, hC1⟩) | ((with_reducible refine (HE2.out _).mono ?_); rintro e w1 ⟨rfl, hC1⟩)); have bm := bm.call hC1; obtain ⟨p0, p1, p2, _, _, _, _⟩ := bm.f3; have hZ := hZ.trans (hC1.mono hZ.size)))
  go_ret
  exact ⟨ret_bs (by rw [HPT.out]; simp [us]), hZ⟩
end Go.Proofs.YtipdiddjhimdcaaGreatDoor
