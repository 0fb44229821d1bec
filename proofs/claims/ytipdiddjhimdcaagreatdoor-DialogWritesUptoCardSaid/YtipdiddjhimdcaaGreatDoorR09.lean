/- Contracts of Go functions, and plain laws. No condition but those told. -/
import Derived.Test.YtipdiddjhimdcaaGreatDoorR08
import Derived.Test.YtipdiddjhimdcaaGreatDoorR06
import Derived.Test.YtipdiddjhimdcaaGreatDoorR05
set_option linter.unusedSimpArgs false
set_option linter.unusedVariables false
set_option maxRecDepth 100000
namespace Go.Proofs.YtipdiddjhimdcaaGreatDoor
open Go.RowKit
theorem Strs.at_ {w : World} {base b off cap k : Nat} {e : TypeId} {L : List (List UInt8)} (h : Strs w base e (.slice (some ⟨b, off, none⟩) L.length cap) L) (hk : k < L.length) : w.cell? ⟨b, off + k, none⟩ = some (.string (bs L[k])) := by
 obtain ⟨ao, c, e1, _, h2⟩ := h.read.form
 obtain ⟨b', off', e2, _, h3⟩ := h2 (by omega)
 injection e1 with e1 _ _
 rw [e2] at e1
 injection e1 with e1
 injection e1 with e3 e4
 subst e3 e4
 exact h3 k hk
set_option maxHeartbeats 6400000 in
theorem partsRF_c (s : ByteArray) (hs : s.size ≤ 4294967280) (sep : UInt8) (w : World) :
  Calls Tryz.prog 133 #[.string s, .int .u8 sep.toNat] w fun e w' => ∃ v, e = .returned v ∧ Strs w' w.heap.size 9 v (parts (us s) sep) ∧ Below w.heap.size w w' := by
 go_enter Tryz.func133, Tryz.ntmps133
 go_wp2
 go_loopw [5, 6, 7, 8, 9] (fun v vb qq aa i wr => ∃ (k : Nat) (q a : Bool) (cur : List UInt8) (L : List (List UInt8)), k ≤ s.size ∧ i = .int .i64 k ∧ qq = .bool q ∧ aa = .bool a ∧ L.length ≤ k ∧ cur.length ≤ k ∧ Strs wr w.heap.size 9 v L ∧ Byt wr w.heap.size 5 vb cur ∧ parts (us s) sep = L ++ partsGo sep q a cur ((us s).drop k) ∧ Below w.heap.size w wr) (fun _ _ _ _ i _ => s.size - (intOf i).toNat)
 case atStart => exact ⟨0, false, false, [], [], Nat.zero_le _, rfl, rfl, rfl, ρ _, ρ _, Strs.nil _ _ _, Byt.nil _ _ _, rfl, Below.refl _ _⟩
 case round =>
  obtain ⟨k, q, a, cur, L, hk, rfl, rfl, rfl, hl, hcl, hown, hownB, hp, hB⟩ := hrel
  have HP := κ hp; clear hp
  by_cases hlt : k < s.size
  ·have hd := κ (drop_us s k hlt)
   by_cases hA : q = true ∧ s[k].toNat = 92
   ·obtain ⟨rfl, h92⟩ := hA
    have t92 : ((s[k].toNat : Int) == 92) = true := by simp; omega
    by_cases hk1 : k + 1 < s.size
    ·have HN := κ (show parts (us s) sep = L ++ partsGo sep true a ((cur ++ [s[k]]) ++ [s[k + 1]]) ((us s).drop (k + 2)) by rw [HP.out, pg_esc2 sep a _ s k hk1 h92])
     clear h92
     go_wp2_with (first | (at_builtin; refine wpList_appK_B s[k] rfl rfl rfl Tryz.underlying140 infoB rfl rfl hownB hB (ρ _) ?_ ?_; (focus omega); intro v1 w1 ho1 hb1 hk1') | (at_builtin; refine wpList_appK_B s[k + 1] rfl rfl rfl Tryz.underlying140 infoB rfl rfl ho1 hb1 (ρ _) ?_ ?_; (focus (rw [List.length_append]; simp; omega)); intro v2 w2 ho2 hb2 hk2'))
     go_roundw
     case rel => exact ⟨k + 2, true, a, _, L, by omega, by go_num, rfl, rfl, by omega, by simp; omega, (hown.kept hk1' (by decide)).kept hk2' (by decide), ho2, HN.out, hb2⟩
     case measure => simp [intOf]; omega
    ·have HN := κ (show parts (us s) sep = L ++ partsGo sep true a (cur ++ [s[k]]) ((us s).drop (k + 1)) by rw [HP.out, pg_esc1 sep a _ s k hlt hk1 h92])
     clear h92
     go_wp2_with (at_builtin; refine wpList_appK_B s[k] rfl rfl rfl Tryz.underlying140 infoB rfl rfl hownB hB (ρ _) ?_ ?_; (focus omega); intro v1 w1 ho1 hb1 hk1')
     go_roundw
     case rel => exact ⟨k + 1, true, a, _, L, by omega, by go_num, rfl, rfl, by omega, by simp; omega, hown.kept hk1' (by decide), ho1, HN.out, hb1⟩
     case measure => simp [intOf]; omega
   have hpg := κ (pg_cons sep q a cur s[k] ((us s).drop (k + 1)) hA)
   by_cases h34 : s[k].toNat = 34
   ·have HN := κ (show parts (us s) sep = L ++ partsGo sep (!q) a (cur ++ [s[k]]) ((us s).drop (k + 1)) by rw [HP.out, hd.out, hpg.out, if_pos h34])
    have t92 : ((s[k].toNat : Int) == 92) = false := by simp; omega
    have t34 : ((s[k].toNat : Int) == 34) = true := by simp; omega
    have u34 : ((s[k].toNat : Int) != 34) = false := by simp; omega
    have t60 : ((s[k].toNat : Int) == 60) = false := by simp; omega
    have t62 : ((s[k].toNat : Int) == 62) = false := by simp; omega
    clear h34 hA
    cases q <;> cases a <;> cases tsep : ((s[k].toNat : Int) == (sep.toNat : Int))
    all_goals
     go_wp2_with (at_builtin; refine wpList_appK_B s[k] rfl rfl rfl Tryz.underlying140 infoB rfl rfl hownB hB (ρ _) ?_ ?_; (focus omega); intro v1 w1 ho1 hb1 hk1')
     go_roundw
     case rel => exact ⟨k + 1, _, _, _, L, by omega, by go_num, rfl, rfl, by omega, by simp; omega, hown.kept hk1' (by decide), ho1, HN.out, hb1⟩
     case measure => simp [intOf]; omega
   have t34 : ((s[k].toNat : Int) == 34) = false := by simp; omega
   have u34 : ((s[k].toNat : Int) != 34) = true := by simp; omega
   have N34 := κ h34
   clear h34
   cases q with
   | true =>
    have t92 : ((s[k].toNat : Int) == 92) = false := by simp; simp at hA; omega
    clear hA
    have HN := κ (show parts (us s) sep = L ++ partsGo sep true a (cur ++ [s[k]]) ((us s).drop (k + 1)) by rw [HP.out, hd.out, hpg.out, if_neg N34.out, if_pos rfl])
    go_wp2_with (at_builtin; refine wpList_appK_B s[k] rfl rfl rfl Tryz.underlying140 infoB rfl rfl hownB hB (ρ _) ?_ ?_; (focus omega); intro v1 w1 ho1 hb1 hk1')
    go_roundw
    case rel => exact ⟨k + 1, _, _, _, L, by omega, by go_num, rfl, rfl, by omega, by simp; omega, hown.kept hk1' (by decide), ho1, HN.out, hb1⟩
    case measure => simp [intOf]; omega
   | false =>
    clear hA
    by_cases h60 : s[k].toNat = 60
    ·have HN := κ (show parts (us s) sep = L ++ partsGo sep false true (cur ++ [s[k]]) ((us s).drop (k + 1)) by rw [HP.out, hd.out, hpg.out, if_neg N34.out, if_neg (by decide), if_pos h60])
     have t60 : ((s[k].toNat : Int) == 60) = true := by simp; omega
     have u60 : ((s[k].toNat : Int) != 60) = false := by simp; omega
     have t62 : ((s[k].toNat : Int) == 62) = false := by simp; omega
     clear h60
     cases a <;> cases tsep : ((s[k].toNat : Int) == (sep.toNat : Int))
     all_goals
      go_wp2_with (at_builtin; refine wpList_appK_B s[k] rfl rfl rfl Tryz.underlying140 infoB rfl rfl hownB hB (ρ _) ?_ ?_; (focus omega); intro v1 w1 ho1 hb1 hk1')
      go_roundw
      case rel => exact ⟨k + 1, _, _, _, L, by omega, by go_num, rfl, rfl, by omega, by simp; omega, hown.kept hk1' (by decide), ho1, HN.out, hb1⟩
      case measure => simp [intOf]; omega
    have t60 : ((s[k].toNat : Int) == 60) = false := by simp; omega
    have u60 : ((s[k].toNat : Int) != 60) = true := by simp; omega
    have N60 := κ h60
    clear h60
    by_cases h62 : s[k].toNat = 62
    ·have HN := κ (show parts (us s) sep = L ++ partsGo sep false false (cur ++ [s[k]]) ((us s).drop (k + 1)) by rw [HP.out, hd.out, hpg.out, if_neg N34.out, if_neg (by decide), if_neg N60.out, if_pos h62])
     have t62 : ((s[k].toNat : Int) == 62) = true := by simp; omega
     have u62 : ((s[k].toNat : Int) != 62) = false := by simp; omega
     clear h62
     cases a <;> cases tsep : ((s[k].toNat : Int) == (sep.toNat : Int))
     all_goals
      go_wp2_with (at_builtin; refine wpList_appK_B s[k] rfl rfl rfl Tryz.underlying140 infoB rfl rfl hownB hB (ρ _) ?_ ?_; (focus omega); intro v1 w1 ho1 hb1 hk1')
      go_roundw
      case rel => exact ⟨k + 1, _, _, _, L, by omega, by go_num, rfl, rfl, by omega, by simp; omega, hown.kept hk1' (by decide), ho1, HN.out, hb1⟩
      case measure => simp [intOf]; omega
    have t62 : ((s[k].toNat : Int) == 62) = false := by simp; omega
    have u62 : ((s[k].toNat : Int) != 62) = true := by simp; omega
    have N62 := κ h62
    clear h62
    by_cases hsp : s[k].toNat = sep.toNat ∧ a = false
    ·obtain ⟨hs1, rfl⟩ := hsp
     have HN := κ (show parts (us s) sep = (L ++ [cur]) ++ partsGo sep false false [] ((us s).drop (k + 1)) by rw [HP.out, hd.out, hpg.out, if_neg N34.out, if_neg (by decide), if_neg N60.out, if_neg N62.out, if_pos ⟨hs1, rfl⟩]; simp)
     have tsp : ((s[k].toNat : Int) == (sep.toNat : Int)) = true := by simp; omega
     clear hs1
     go_wp2_with (first | (refine wpList_str rfl rfl Tryz.underlying140 Tryz.underlying5 Tryz.underlying9 rfl hownB ?_) | (at_builtin; refine wpList_appK_S cur (us_bs _) rfl rfl Tryz.underlying30 infoS rfl rfl hown hB (ρ _) ?_ ?_; (focus omega); intro v1 w1 ho1 hb1 hk1'))
     go_roundw
     case rel => exact ⟨k + 1, false, false, [], _, by omega, by go_num, rfl, rfl, by simp; omega, by simp, ho1, Byt.nil _ _ _, HN.out, hb1⟩
     case measure => simp [intOf]; omega
    have HN := κ (show parts (us s) sep = L ++ partsGo sep false a (cur ++ [s[k]]) ((us s).drop (k + 1)) by rw [HP.out, hd.out, hpg.out, if_neg N34.out, if_neg (by decide), if_neg N60.out, if_neg N62.out, if_neg hsp])
    have hsp' : (((s[k].toNat : Int) == (sep.toNat : Int)) = true ∧ a = true) ∨ ((s[k].toNat : Int) == (sep.toNat : Int)) = false := by
     cases a
     ·right; simp; simp at hsp; omega
     ·by_cases h : s[k].toNat = sep.toNat
      ·left; exact ⟨by simp; omega, rfl⟩
      ·right; simp; omega
    clear hsp
    rcases hsp' with ⟨tsp, rfl⟩ | tsp
    ·skip
     go_wp2_with (at_builtin; refine wpList_appK_B s[k] rfl rfl rfl Tryz.underlying140 infoB rfl rfl hownB hB (ρ _) ?_ ?_; (focus omega); intro v1 w1 ho1 hb1 hk1')
     go_roundw
     case rel => exact ⟨k + 1, _, _, _, L, by omega, by go_num, rfl, rfl, by omega, by simp; omega, hown.kept hk1' (by decide), ho1, HN.out, hb1⟩
     case measure => simp [intOf]; omega
    ·cases a
     all_goals
      go_wp2_with (at_builtin; refine wpList_appK_B s[k] rfl rfl rfl Tryz.underlying140 infoB rfl rfl hownB hB (ρ _) ?_ ?_; (focus omega); intro v1 w1 ho1 hb1 hk1')
      go_roundw
      case rel => exact ⟨k + 1, _, _, _, L, by omega, by go_num, rfl, rfl, by omega, by simp; omega, hown.kept hk1' (by decide), ho1, HN.out, hb1⟩
      case measure => simp [intOf]; omega
  ·have HN := κ (show parts (us s) sep = L ++ [cur] by rw [HP.out, drop_us_end s k (by omega)]; simp [partsGo])
   go_wp2_with (first | (refine wpList_str rfl rfl Tryz.underlying140 Tryz.underlying5 Tryz.underlying9 rfl hownB ?_) | (at_builtin; refine wpList_appK_S cur (us_bs _) rfl rfl Tryz.underlying30 infoS rfl rfl hown hB (ρ _) ?_ ?_; (focus omega); intro v1 w1 ho1 hb1 hk1'))
   go_ret
   exact ⟨_, rfl, (ho1.cast HN.out.symm), hb1⟩
end Go.Proofs.YtipdiddjhimdcaaGreatDoor
namespace Go.Proofs.YtipdiddjhimdcaaGreatDoor
open Go.RowKit Go.Sort
theorem RPrms.to {w : World} {v : Value} {F G : List Prm} (h : RPrms w v F) (e : F = G) : RPrms w v G := e ▸ h
theorem Hops.free {w wx : World} {base : Nat} {v u : Value} {R : List (Hop × Value)} {q : Hop} (h : Hops w base v R) (hF : Fresh wx.heap.size u) (hs : w.heap.size ≤ wx.heap.size) : q.ps ≠ [] → ∀ a n c, u = .slice (some a) n c → v.ownBlock ≠ some a.block := by
 intro _ a n c e e2
 have h1 := h.lt _ e2
 have h2 := hF a n c e
 omega
structure Uri where
 scheme : List UInt8
 user : List UInt8
 host : List UInt8
 port : Int
 ps : List Prm
 hs : List Prm
deriving DecidableEq
def uri0 : Uri := ⟨[], [], [], 0, [], []⟩
def nSip : List UInt8 := [115, 105, 112]
def nSips : List UInt8 := [115, 105, 112, 115]
def nPres : List UInt8 := [112, 114, 101, 115]
def schemeS (l : List UInt8) : Bool := l == nSip || l == nSips || l == nPres
def kUsers : List UInt8 := [38, 61, 43, 36, 44, 59, 63, 47]
def kParams : List UInt8 := [91, 93, 47, 58, 38, 43, 36]
def kHeaders : List UInt8 := [91, 93, 47, 63, 58, 43, 36]
def okU (p : Prm) : Bool := decide (1 ≤ p.name.length) && decide (p.name.length ≤ 64) && decide (p.value.length ≤ 64) && (p.has || p.value == [])
def twiceU (d : List Prm) (n : List UInt8) : Bool := d.any fun q => same q.name n
def listGo : List Prm → List Prm → Bool
 | _, [] => true
 | d, p :: r => okU p && !(twiceU d p.name) && listGo (d ++ [p]) r
def listU (L : List Prm) : Bool := decide (L.length ≤ 16) && listGo [] L
def checkU (u : Uri) : Int :=
 if schemeS u.scheme = false then 30 else if 64 < u.user.length then 31 else if hostS u.host = false then 32
 else if u.port < 0 ∨ 65535 < u.port then 33 else if listU u.ps = false then 34 else if listU u.hs = false then 34 else if (u.hs.all fun h => h.has) = false then 34 else 0
def mayW (keep : List UInt8) (c : UInt8) : Bool := c.toNat == 37 || testc 16 c || hasb keep c
def writtenS (l keep : List UInt8) : Option (List UInt8) := if l.all (mayW keep) = true then unesc l else none
def readGo (keep : List UInt8) : List (List UInt8) → Option (List Prm)
 | [] => some []
 | x :: r => (writtenS (cutb 61 x).1 keep).bind fun n => (writtenS (cutb 61 x).2.1 keep).bind fun v => (readGo keep r).map (⟨n, v, (cutb 61 x).2.2⟩ :: ·)
def userS (l : List UInt8) : Option (List UInt8 × List UInt8) :=
 if (cutb 64 l).2.2 = true then
  match writtenS (cutb 64 l).1 kUsers with
  | some t => if t = [] ∨ 64 < t.length then none else some (t, (cutb 64 l).2.1)
  | none => none
 else some ([], l)
def endU (u : Uri) : Uri × Int := if checkU u = 0 then (u, 0) else (uri0, checkU u)
def parseU4 (sc us : List UInt8) (w : (List UInt8 × Int) × Int) (P H : Option (List Prm)) : Uri × Int :=
 if w.2 ≠ 0 then (uri0, w.2) else
 match P, H with
 | some P, some H => endU ⟨sc, us, w.1.1, w.1.2, P, H⟩
 | _, _ => (uri0, 34)
def parseU3 (sc us r : List UInt8) : Uri × Int :=
 parseU4 sc us (whereS ((splitc 59 (cutb 63 r).1).headD [])) (readGo kParams (splitc 59 (cutb 63 r).1).tail) (if (cutb 63 r).2.2 = true then readGo kHeaders (splitc 38 (cutb 63 r).2.1) else some [])
def parseU2 (sc r : List UInt8) : Uri × Int :=
 match userS r with
 | none => (uri0, 31)
 | some x => parseU3 sc x.1 x.2
def parseU (l : List UInt8) : Uri × Int :=
 if (cutb 58 l).2.2 = false ∨ schemeS (lowr (cutb 58 l).1) = false then (uri0, 30) else parseU2 (lowr (cutb 58 l).1) (cutb 58 l).2.1
theorem listGo_ok : ∀ (L d : List Prm), listGo d L = true → ∀ p ∈ L, okU p = true
 | [], _, _ => fun p hp => by cases hp
 | q :: r, d, h => by
  rw [listGo, Bool.and_eq_true, Bool.and_eq_true] at h
  intro p hp
  rcases List.mem_cons.1 hp with rfl | hp
  ·exact h.1.1
  ·exact listGo_ok r (d ++ [q]) h.2 p hp
theorem listU_ok {L : List Prm} (h : listU L = true) : L.length ≤ 16 ∧ ∀ p ∈ L, 1 ≤ p.name.length ∧ p.name.length ≤ 64 ∧ p.value.length ≤ 64 ∧ (p.has = true ∨ p.value = []) := by
 unfold listU at h
 rw [Bool.and_eq_true, decide_eq_true_eq] at h
 refine ⟨h.1, fun p hp => ?_⟩
 have := listGo_ok L [] h.2 p hp
 unfold okU at this
 simpa [and_assoc] using this
theorem checkU_parts (u : Uri) (h : checkU u = 0) : schemeS u.scheme = true ∧ u.user.length ≤ 64 ∧ hostS u.host = true ∧ 0 ≤ u.port ∧ u.port ≤ 65535 ∧ listU u.ps = true ∧ listU u.hs = true ∧ (u.hs.all fun h => h.has) = true := by
 unfold checkU at h
 cases h1 : schemeS u.scheme
 ·rw [h1, if_pos rfl] at h; exact absurd h (by decide)
 ·rw [h1, if_neg (by decide)] at h
  split at h
  ·exact absurd h (by decide)
  ·rename_i h2
   cases h3 : hostS u.host
   ·rw [h3, if_pos rfl] at h; exact absurd h (by decide)
   ·rw [h3, if_neg (by decide)] at h
    split at h
    ·exact absurd h (by decide)
    ·rename_i h4
     cases h5 : listU u.ps
     ·rw [h5, if_pos rfl] at h; exact absurd h (by decide)
     ·rw [h5, if_neg (by decide)] at h
      cases h6 : listU u.hs
      ·rw [h6, if_pos rfl] at h; exact absurd h (by decide)
      ·rw [h6, if_neg (by decide)] at h
       cases h7 : (u.hs.all fun h => h.has)
       ·rw [h7, if_pos rfl] at h; exact absurd h (by decide)
       ·exact ⟨rfl, by omega, rfl, by omega, by omega, rfl, rfl, rfl⟩
theorem scheme_facts (l : List UInt8) (h : schemeS l = true) : (∀ x ∈ l, x.toNat ≠ 58) ∧ lowr l = l ∧ l.length ≤ 4 ∧ (∀ x ∈ l, x.toNat ≠ 62 ∧ x.toNat ≠ 60 ∧ x.toNat ≠ 34) ∧ l ≠ [] := by
 unfold schemeS at h
 simp only [Bool.or_eq_true, beq_iff_eq] at h
 rcases h with (rfl | rfl) | rfl <;> exact ⟨by decide, by decide +kernel, by decide, by decide, by decide⟩
theorem endU_ok (u : Uri) : ((endU u).2 = 0 → checkU (endU u).1 = 0) ∧ ((endU u).2 ≠ 0 → (endU u).1 = uri0) := by
 unfold endU
 split
 ·rename_i h; exact ⟨fun _ => h, fun h => absurd rfl h⟩
 ·rename_i h; exact ⟨fun h1 => absurd h1 h, fun _ => rfl⟩
theorem parseU_ok (l : List UInt8) : ((parseU l).2 = 0 → checkU (parseU l).1 = 0) ∧ ((parseU l).2 ≠ 0 → (parseU l).1 = uri0) := by
 have bad : ∀ c : Int, c ≠ 0 → ((uri0, c).2 = 0 → checkU (uri0, c).1 = 0) ∧ ((uri0, c).2 ≠ 0 → (uri0, c).1 = uri0) := fun c hc => ⟨fun h => absurd h hc, fun _ => rfl⟩
 unfold parseU
 split
 ·exact bad 30 (by decide)
 ·unfold parseU2
  split
  ·exact bad 31 (by decide)
  ·unfold parseU3 parseU4
   split
   ·rename_i h; exact bad _ h
   ·split
    ·exact endU_ok _
    ·exact bad 34 (by decide)
structure Adr where
 disp : List UInt8
 uri : Uri
 ps : List Prm
deriving DecidableEq
def adr0 : Adr := ⟨[], uri0, []⟩
def nTag : List UInt8 := [116, 97, 103]
def checkA (a : Adr) : Int := if (quote a.disp).2 ≠ 0 ∨ 64 < a.disp.length then 50 else if checkU a.uri ≠ 0 then checkU a.uri else (textS a.ps).2
def wordsGo : List UInt8 → List UInt8 → List (List UInt8)
 | cur, [] => if cur = [] then [] else [cur]
 | cur, c :: r => if blank c = true then (if cur = [] then wordsGo [] r else cur :: wordsGo [] r) else wordsGo (cur ++ [c]) r
def dispb (c : UInt8) : Bool := blank c || testc 8 c
def dispT (t : List UInt8) : Option (List UInt8) :=
 if opens 34 t = true then (if (unquote t).2 = 0 then some (unquote t).1 else none)
 else if t.all dispb = true then some (glue [32] (wordsGo [] t)) else none
def displayS (l : List UInt8) : Option (List UInt8) := dispT (trim l)
def angGo : Bool → List UInt8 → Int → Int
 | _, [], _ => -1
 | q, c :: r, k =>
  if q = true ∧ c.toNat = 92 then
   match r with
   | [] => -1
   | _ :: r' => angGo q r' (k + 2)
  else if c.toNat = 34 then angGo (!q) r (k + 1)
  else if q = false ∧ c.toNat = 60 then k
  else angGo q r (k + 1)
def angS (l : List UInt8) : Int := angGo false l 0
def barb (c : UInt8) : Bool := c.toNat == 63 || c.toNat == 44 || c.toNat == 34
def endA (d : List UInt8) (u : Uri × Int) (h : List UInt8) (f : List Prm × Int) : Adr × Int :=
 if u.2 ≠ 0 then (adr0, u.2) else if trim h ≠ [] then (adr0, 50) else if f.2 ≠ 0 then (adr0, f.2) else (⟨d, u.1, f.1⟩, 0)
def parseA2 (d wh bh : List UInt8) : Adr × Int := endA d (parseU wh) ((parts bh 59).headD []) (fieldsS (parts bh 59).tail)
def parseN (d : Option (List UInt8)) (c : List UInt8 × List UInt8 × Bool) : Adr × Int :=
 match d with
 | none => (adr0, 50)
 | some d => if 64 < d.length ∨ c.2.2 = false then (adr0, 50) else parseA2 d c.1 c.2.1
def parseB (s wh : List UInt8) : Adr × Int := if wh.any barb = true then (adr0, 50) else parseA2 [] wh (s.drop (cutb 59 s).1.length)
def parseA1 (s : List UInt8) : Adr × Int :=
 if 0 ≤ angS s then parseN (displayS (s.take (angS s).toNat)) (cutb 62 (s.drop ((angS s).toNat + 1)))
 else parseB s (trim (cutb 59 s).1)
def parseA (l : List UInt8) : Adr × Int := parseA1 (trim l)
def tagA (a : Adr) : List UInt8 := (value a.ps nTag).1
theorem ang_cons (q : Bool) (c : UInt8) (r : List UInt8) (k : Int) (h : ¬ (q = true ∧ c.toNat = 92)) : angGo q (c :: r) k = if c.toNat = 34 then angGo (!q) r (k + 1) else if q = false ∧ c.toNat = 60 then k else angGo q r (k + 1) := by
 cases r <;> (rw [angGo.eq_def]; dsimp only; rw [if_neg h])
theorem ang_esc (c d : UInt8) (r : List UInt8) (k : Int) (h : c.toNat = 92) : angGo true (c :: d :: r) k = angGo true r (k + 2) := by
 rw [angGo.eq_def]; dsimp only; rw [if_pos ⟨rfl, h⟩]
theorem checkA_parts (a : Adr) (h : checkA a = 0) : (quote a.disp).2 = 0 ∧ a.disp.length ≤ 64 ∧ checkU a.uri = 0 ∧ (textS a.ps).2 = 0 := by
 unfold checkA at h
 split at h
 ·exact absurd h (by decide)
 ·rename_i h1
  split at h
  ·rename_i h2; exact absurd h h2
  ·rename_i h2
   by_cases hq : (quote a.disp).2 = 0
   ·refine ⟨hq, ?_, ?_, h⟩
    ·by_cases hl : 64 < a.disp.length
     ·exact absurd (.inr hl) h1
     ·omega
    ·by_cases hc : checkU a.uri = 0
     ·exact hc
     ·exact absurd hc h2
   ·exact absurd (.inl hq) h1
theorem unqGo_ok : ∀ (l r : List UInt8), unqGo l = some r → r.any broken = false
 | [], r, h => by rw [unqGo] at h; injection h with h; rw [← h]; rfl
 | [c], r, h => by
  rw [unqGo] at h
  split at h
  ·rename_i hb
   injection h with h
   rw [← h, List.any_cons, List.any_nil, Bool.or_false]
   exact bare_broken c hb
  ·cases h
 | c :: d :: r, x, h => by
  rw [unqGo] at h
  split at h
  ·split at h
   ·cases h
   ·rename_i hd
    obtain ⟨y, hy, rfl⟩ := Option.map_eq_some_iff.1 h
    rw [List.any_cons, unqGo_ok r y hy, Bool.or_false]
    simp only [Bool.or_eq_true, not_or] at hd
    simpa using hd.1
  ·split at h
   ·rename_i hb
    obtain ⟨y, hy, rfl⟩ := Option.map_eq_some_iff.1 h
    rw [List.any_cons, unqGo_ok (d :: r) y hy, Bool.or_false]
    exact bare_broken c hb
   ·cases h
where
 bare_broken (c : UInt8) (h : bare c = true) : broken c = false := by
  have := all_bytes (fun c => bare c = true → broken c = false) (by decide +kernel) c
  exact this h
theorem quote_of (l : List UInt8) (h : l.any broken = false) : (quote l).2 = 0 := by
 unfold quote
 rw [h, if_neg (by decide)]
theorem unquote_ok0 (l : List UInt8) (h : (unquote l).2 = 0) : (quote (unquote l).1).2 = 0 := by
 unfold unquote at h ⊢
 split
 ·rename_i h1; rw [if_pos h1] at h; exact absurd h (by decide)
 ·rename_i h1
  rw [if_neg h1] at h
  cases hu : unqGo ((l.drop 1).take (l.length - 2)) with
  | none => rw [hu] at h; exact absurd h (by decide)
  | some r => exact quote_of _ (unqGo_ok _ _ hu)
theorem words_broken : ∀ (l cur : List UInt8), l.all dispb = true → (∀ c ∈ cur, broken c = false) → ∀ w ∈ wordsGo cur l, ∀ c ∈ w, broken c = false
 | [], cur, _, hc => by
  intro w hw
  rw [wordsGo] at hw
  split at hw
  ·cases hw
  ·rw [List.mem_singleton] at hw; subst hw; exact hc
 | c :: r, cur, h, hc => by
  rw [List.all_cons, Bool.and_eq_true] at h
  intro w hw
  rw [wordsGo] at hw
  have h0 : ∀ c ∈ ([] : List UInt8), broken c = false := fun c hc => by cases hc
  split at hw
  ·split at hw
   ·exact words_broken r [] h.2 h0 w hw
   ·rcases List.mem_cons.1 hw with rfl | hw
    ·exact hc
    ·exact words_broken r [] h.2 h0 w hw
  ·refine words_broken r (cur ++ [c]) h.2 (fun d hd => ?_) w hw
   rcases List.mem_append.1 hd with hd | hd
   ·exact hc d hd
   ·rw [List.mem_singleton] at hd
    subst hd
    have := all_bytes (fun c => dispb c = true → broken c = false) (by decide +kernel) d
    exact this h.1
theorem glue_mem (sep : List UInt8) : ∀ (L : List (List UInt8)), ∀ c ∈ glue sep L, (∃ w ∈ L, c ∈ w) ∨ c ∈ sep
 | [], c, h => by cases h
 | [x], c, h => .inl ⟨x, List.mem_cons_self .., h⟩
 | x :: y :: r, c, h => by
  rw [glue] at h
  rcases List.mem_append.1 h with h | h
  ·exact .inl ⟨x, List.mem_cons_self .., h⟩
  ·rcases List.mem_append.1 h with h | h
   ·exact .inr h
   ·rcases glue_mem sep (y :: r) c h with ⟨w, hw, hc⟩ | h
    ·exact .inl ⟨w, List.mem_cons_of_mem _ hw, hc⟩
    ·exact .inr h
theorem display_ok (l d : List UInt8) (h : displayS l = some d) : (quote d).2 = 0 := by
 unfold displayS dispT at h
 split at h
 ·split at h
  ·rename_i hu; injection h with h; rw [← h]; exact unquote_ok0 _ hu
  ·cases h
 ·split at h
  ·rename_i ha
   injection h with h
   refine quote_of _ ?_
   rw [List.any_eq_false]
   intro c hc
   rw [← h] at hc
   rcases glue_mem _ _ c hc with ⟨w, hw, hcw⟩ | hc
   ·rw [words_broken _ [] ha (fun c hc => by cases hc) w hw c hcw]; decide
   ·rw [List.mem_singleton] at hc; subst hc; decide +kernel
  ·cases h
theorem endA_ok (d : List UInt8) (wh h : List UInt8) (Ps : List (List UInt8)) (hd : (quote d).2 = 0) (hl : d.length ≤ 64) :
  ((endA d (parseU wh) h (fieldsS Ps)).2 = 0 → checkA (endA d (parseU wh) h (fieldsS Ps)).1 = 0) ∧ ((endA d (parseU wh) h (fieldsS Ps)).2 ≠ 0 → (endA d (parseU wh) h (fieldsS Ps)).1 = adr0) := by
 unfold endA
 by_cases h1 : (parseU wh).2 = 0
 ·rw [if_neg (fun x => x h1)]
  by_cases h2 : trim h = []
  ·rw [if_neg (fun x => x h2)]
   by_cases h3 : (fieldsS Ps).2 = 0
   ·rw [if_neg (fun x => x h3)]
    refine ⟨fun _ => ?_, fun x => absurd rfl x⟩
    unfold checkA
    dsimp only
    have hu := (parseU_ok wh).1 h1
    rw [if_neg (by rintro (x | x); exact x hd; omega), if_neg (fun x => x hu)]
    exact fields_textS Ps h3
   ·rw [if_pos h3]; exact ⟨fun x => absurd x h3, fun _ => rfl⟩
  ·rw [if_pos h2]; exact ⟨fun x => absurd x (by decide), fun _ => rfl⟩
 ·rw [if_pos h1]; exact ⟨fun x => absurd x h1, fun _ => rfl⟩
theorem parseA_ok (l : List UInt8) : ((parseA l).2 = 0 → checkA (parseA l).1 = 0) ∧ ((parseA l).2 ≠ 0 → (parseA l).1 = adr0) := by
 have bad : ((adr0, (50 : Int)).2 = 0 → checkA (adr0, (50 : Int)).1 = 0) ∧ ((adr0, (50 : Int)).2 ≠ 0 → (adr0, (50 : Int)).1 = adr0) := ⟨fun h => absurd h (by decide), fun _ => rfl⟩
 unfold parseA parseA1
 split
 ·unfold parseN
  cases hd : displayS ((trim l).take (angS (trim l)).toNat) with
  | none => exact bad
  | some d =>
   dsimp only
   split
   ·exact bad
   ·rename_i h1
    exact endA_ok d _ _ _ (display_ok _ _ hd) (by
     by_cases hl : 64 < d.length
     ·exact absurd (.inl hl) h1
     ·omega)
 ·unfold parseB
  split
  ·exact bad
  ·exact endA_ok [] _ _ _ rfl (Nat.zero_le _)
end Go.Proofs.YtipdiddjhimdcaaGreatDoor
