/- Contracts of Go functions, and plain laws. No condition but those told. -/
import Derived.Test.YtipdiddjhimdcaaGreatDoorR10
import Derived.Test.YtipdiddjhimdcaaGreatDoorR05
import Derived.Test.YtipdiddjhimdcaaGreatDoorR03
set_option linter.unusedSimpArgs false
set_option linter.unusedVariables false
set_option maxRecDepth 100000
namespace Go.Proofs.YtipdiddjhimdcaaGreatDoor
open Go.RowKit
theorem blk_h6 {w : World} {g : Nat} {t : TypeId} {a b c d e f : Value} (h : Blk w g t #[a, b, c, d, e, f]) :
  w.cell? ⟨g, 0, none⟩ = some a ∧ w.cell? ⟨g, 1, none⟩ = some b ∧ w.cell? ⟨g, 2, none⟩ = some c ∧ w.cell? ⟨g, 3, none⟩ = some d ∧ w.cell? ⟨g, 4, none⟩ = some e ∧ w.cell? ⟨g, 5, none⟩ = some f ∧
  w.frozen? ⟨g, 0, none⟩ = false ∧ w.frozen? ⟨g, 1, none⟩ = false ∧ w.frozen? ⟨g, 2, none⟩ = false ∧ w.frozen? ⟨g, 3, none⟩ = false ∧ w.frozen? ⟨g, 4, none⟩ = false ∧ w.frozen? ⟨g, 5, none⟩ = false ∧ g < w.heap.size :=
 ⟨boxedCell h 0, boxedCell h 1, boxedCell h 2, boxedCell h 3, boxedCell h 4, boxedCell h 5, boxedFree h 0, boxedFree h 1, boxedFree h 2, boxedFree h 3, boxedFree h 4, boxedFree h 5, h.lt⟩
def UriPost (r : Uri × Int) (w : World) (e : Ending) (w' : World) : Prop :=
 ∃ u1 u2, e = .returned (.tuple #[.agg #[sv r.1.scheme, sv r.1.user, sv r.1.host, .int .i64 r.1.port, u1, u2], .int .i64 r.2]) ∧ RPrms w' u1 r.1.ps ∧ RPrms w' u2 r.1.hs ∧ Fresh w.heap.size u1 ∧ Fresh w.heap.size u2 ∧ Below w.heap.size w w'
theorem uriErr {R : Uri × Int} {c : Int} {w w' : World} (h : R = (uri0, c)) (hB : Below w.heap.size w w') : UriPost R w (.returned (.tuple #[.agg #[.string ⟨#[]⟩, .string ⟨#[]⟩, .string ⟨#[]⟩, .int .i64 0, .slice none 0 0, .slice none 0 0], .int .i64 c])) w' := by
 subst h
 exact ⟨_, _, rfl, .inl ⟨⟨_, _, rfl⟩, rfl⟩, .inl ⟨⟨_, _, rfl⟩, rfl⟩, Fresh.nil _ _ _, Fresh.nil _ _ _, hB⟩
theorem RStrs.setF {w : World} {B : Nat} {u : Value} {L : List (List UInt8)} (h : RStrs w u L) (hF : Fresh B u) {p : Addr} (hp : p.block < B) (x : Value) : RStrs (w.setCell p x) u L := by
 rcases h with h | ⟨b, off, cap, h1, h2, h2', h3, h4⟩
 ·exact .inl h
 ·refine .inr ⟨b, off, cap, h1, h2, h2', by simpa using h3, fun j u' hj => ?_⟩
  have hne : B ≤ b := hF ⟨b, off, none⟩ _ _ h1
  have hb : b ≠ p.block := by omega
  have := Below.heap_setCell w p x b hb
  rw [show (w.setCell p x).cell? ⟨b, off + j, none⟩ = w.cell? ⟨b, off + j, none⟩ by simp only [World.cell?, this]]
  exact h4 j u' hj
theorem splitF_c (s : ByteArray) (hs : s.size < 4294967281) (c : UInt8) (w : World) (hm : Ml w) :
  Calls Tryz.prog 111 #[.string s, .string ⟨#[c]⟩] w fun e w' => ∃ v, e = .returned v ∧ RStrs w' v (splitc c (us s)) ∧ Fresh w.heap.size v ∧ Below w.heap.size w w' := by
 obtain ⟨m, hm⟩ := hm
 refine (Tryz.strings_Split s ⟨#[c]⟩ m w hs hm (ρ 1)).mono ?_
 rintro e w' ⟨rfl, rfl⟩
 refine ⟨_, rfl, ?_, (fun a n c h => by injection h with h; injection h with h; rw [← h]; exact ρ _), (Below.refl _ _).alloc (ρ _) _⟩
 have hd := Lib.splitB_data ⟨#[c]⟩ 0 (Lib.countB s ⟨#[c]⟩) s
 have hk : Lib.splitK [c] 0 (Lib.countB s ⟨#[c]⟩) s.data.toList = splitc c (us s) := lib_split c _ _ rfl
 rw [one_data, hk] at hd
 have hl : Lib.countB s ⟨#[c]⟩ + 1 = (splitc c (us s)).length := by
  rw [← hd, List.length_map, Lib.splitB_all ⟨#[c]⟩ (ρ 1) 0 _ s rfl]
 have hsm : Lib.countB s ⟨#[c]⟩ ≤ s.size := Lib.countB_le ⟨#[c]⟩ (ρ 1) _ s (ρ _)
 rw [hl]
 refine .inr ⟨w.heap.size, 0, _, rfl, ρ _, by rw [← hl]; unfold maxLen; omega, by rw [World.size_alloc]; exact Nat.lt_succ_self _, fun j u hj => ?_⟩
 rw [World.cell?_alloc_at _ _ _ _ rfl]
 rw [← hd, List.map_map] at hj
 simpa [sv, bs, Function.comp_def] using hj
theorem readP_bd (K : List UInt8) : ∀ (Ps : List (List UInt8)) (B : Nat), (∀ x ∈ Ps, x.length ≤ B) → ∀ p ∈ (optP (readGo K Ps)).1, p.name.length ≤ B ∧ p.value.length ≤ B
 | [], B, _ => fun p hp => by cases hp
 | x :: r, B, h => by
  intro p hp
  have hx := h x (List.mem_cons_self ..)
  have hc := cutb_le 61 x
  have h1 := optB_len (cutb 61 x).1 K
  have h2 := optB_len (cutb 61 x).2.1 K
  have ih := readP_bd K r B (fun y hy => h y (List.mem_cons_of_mem _ hy))
  rw [readGo] at hp
  cases hw : writtenS (cutb 61 x).1 K with
  | none => rw [hw] at hp; cases hp
  | some n =>
   rw [hw] at hp h1
   cases hv : writtenS (cutb 61 x).2.1 K with
   | none => rw [hv] at hp; cases hp
   | some v =>
    rw [hv] at hp h2
    cases hr : readGo K r with
    | none => rw [hr] at hp; cases hp
    | some L =>
     rw [hr] at hp ih
     dsimp only [optB, optP] at h1 h2 ih
     rcases List.mem_cons.1 (show p ∈ (⟨n, v, (cutb 61 x).2.2⟩ : Prm) :: L from hp) with rfl | hp
     ·exact ⟨by show n.length ≤ B; omega, by show v.length ≤ B; omega⟩
     ·exact ih p hp
theorem parseU_bad (l : List UInt8) (h : (cutb 58 l).2.2 = false ∨ schemeS (lowr (cutb 58 l).1) = false) : parseU l = (uri0, 30) := by unfold parseU; rw [if_pos h]
theorem parseU_go (l : List UInt8) (h : (cutb 58 l).2.2 = true) (h2 : schemeS (lowr (cutb 58 l).1) = true) : parseU l = parseU2 (lowr (cutb 58 l).1) (cutb 58 l).2.1 := by
 unfold parseU; rw [if_neg (by rintro (x | x); rw [h] at x; cases x; rw [h2] at x; cases x)]
theorem parseU2_cases (sc r : List UInt8) :
  ((cutb 64 r).2.2 = false ∧ parseU2 sc r = parseU3 sc [] r) ∨
  ((cutb 64 r).2.2 = true ∧ (optB (writtenS (cutb 64 r).1 kUsers)).2 = false ∧ parseU2 sc r = (uri0, 31)) ∨
  ((cutb 64 r).2.2 = true ∧ (optB (writtenS (cutb 64 r).1 kUsers)).2 = true ∧ ((optB (writtenS (cutb 64 r).1 kUsers)).1 = [] ∨ 64 < (optB (writtenS (cutb 64 r).1 kUsers)).1.length) ∧ parseU2 sc r = (uri0, 31)) ∨
  ((cutb 64 r).2.2 = true ∧ (optB (writtenS (cutb 64 r).1 kUsers)).2 = true ∧ ¬ ((optB (writtenS (cutb 64 r).1 kUsers)).1 = [] ∨ 64 < (optB (writtenS (cutb 64 r).1 kUsers)).1.length) ∧ parseU2 sc r = parseU3 sc (optB (writtenS (cutb 64 r).1 kUsers)).1 (cutb 64 r).2.1) := by
 unfold parseU2 userS
 cases h : (cutb 64 r).2.2
 ·exact .inl ⟨rfl, by rw [if_neg (by decide)]⟩
 refine .inr ?_
 rw [if_pos rfl]
 cases hw : writtenS (cutb 64 r).1 kUsers with
 | none => exact .inl ⟨rfl, rfl, rfl⟩
 | some t =>
  refine .inr ?_
  dsimp only [optB]
  by_cases ht : t = [] ∨ 64 < t.length
  ·exact .inl ⟨rfl, rfl, ht, by rw [if_pos ht]⟩
  ·exact .inr ⟨rfl, rfl, ht, by rw [if_neg ht]⟩
theorem parseU3_cases (sc us r x : List UInt8) (xs : List (List UInt8)) (hs : splitc 59 (cutb 63 r).1 = x :: xs) :
  ((whereS x).2 ≠ 0 ∧ parseU3 sc us r = (uri0, (whereS x).2)) ∨
  ((whereS x).2 = 0 ∧ (optP (readGo kParams xs)).2 = false ∧ parseU3 sc us r = (uri0, 34)) ∨
  ((whereS x).2 = 0 ∧ (optP (readGo kParams xs)).2 = true ∧ (cutb 63 r).2.2 = true ∧ (optP (readGo kHeaders (splitc 38 (cutb 63 r).2.1))).2 = false ∧ parseU3 sc us r = (uri0, 34)) ∨
  ((whereS x).2 = 0 ∧ (optP (readGo kParams xs)).2 = true ∧ (cutb 63 r).2.2 = false ∧ parseU3 sc us r = endU ⟨sc, us, (whereS x).1.1, (whereS x).1.2, (optP (readGo kParams xs)).1, []⟩) ∨
  ((whereS x).2 = 0 ∧ (optP (readGo kParams xs)).2 = true ∧ (cutb 63 r).2.2 = true ∧ (optP (readGo kHeaders (splitc 38 (cutb 63 r).2.1))).2 = true ∧ parseU3 sc us r = endU ⟨sc, us, (whereS x).1.1, (whereS x).1.2, (optP (readGo kParams xs)).1, (optP (readGo kHeaders (splitc 38 (cutb 63 r).2.1))).1⟩) := by
 have e : parseU3 sc us r = parseU4 sc us (whereS x) (readGo kParams xs) (if (cutb 63 r).2.2 = true then readGo kHeaders (splitc 38 (cutb 63 r).2.1) else some []) := by
  unfold parseU3; rw [hs]; rfl
 rw [e]
 unfold parseU4
 by_cases hw : (whereS x).2 = 0
 ·refine .inr ?_
  rw [if_neg (fun h => h hw)]
  cases hp : readGo kParams xs with
  | none => exact .inl ⟨hw, rfl, rfl⟩
  | some P =>
   refine .inr ?_
   cases ha : (cutb 63 r).2.2
   ·exact .inr (.inl ⟨hw, rfl, rfl, by rw [if_neg (by decide)]; rfl⟩)
   ·cases hq : readGo kHeaders (splitc 38 (cutb 63 r).2.1) with
    | none => exact .inl ⟨hw, rfl, rfl, rfl, by rw [if_pos rfl]⟩
    | some H => exact .inr (.inr ⟨hw, rfl, rfl, rfl, by rw [if_pos rfl]; rfl⟩)
 ·exact .inl ⟨hw, by rw [if_pos hw]⟩
set_option maxHeartbeats 12800000 in
theorem parseU_c (s : ByteArray) (hs : s.size ≤ 4294967280) (w : World) (hm : Ml w) :
  Calls Tryz.prog 60 #[.string s] w (UriPost (parseU (us s)) w) := by
 have HM := κ hm
 clear hm
 have HCT := κ (fun wx hx => cut_c s (by omega) 58 wx hx)
 have hbad := parseU_bad (us s)
 have hgo := parseU_go (us s)
 have hcl := cutb_le 58 (us s)
 rw [length_us] at hcl
 obtain ⟨R, hR⟩ : ∃ R, R = parseU (us s) := ⟨_, rfl⟩
 rw [← hR] at hbad hgo ⊢
 obtain ⟨q, hq⟩ : ∃ q, q = cutb 58 (us s) := ⟨_, rfl⟩
 rw [← hq] at HCT hbad hgo hcl
 clear hR hq
 obtain ⟨hd, rest, ok⟩ := q
 dsimp only at HCT hbad hgo hcl
 have HL := κ (fun wx => lowerP_c (bs hd) (by rw [size_bs]; omega) wx)
 rw [us_bs] at HL
 have HSC := κ (fun wx => scheme_c (bs (lowr hd)) wx)
 rw [us_bs] at HSC
 have scl : (lowr hd).length ≤ 4294967280 := by rw [lowr_length]; omega
 obtain ⟨sc, hsc⟩ : ∃ x, x = lowr hd := ⟨_, rfl⟩
 rw [← hsc] at HL HSC hbad hgo scl
 obtain ⟨SC, hSC⟩ : ∃ x, x = bs sc := ⟨_, rfl⟩
 rw [← hSC] at HL HSC
 have HSCu := κ (show us SC = sc by rw [hSC, us_bs])
 have hSCl : SC.size ≤ 4294967280 := by rw [hSC, size_bs]; exact scl
 clear hsc hSC scl
 have hZ : Below w.heap.size w ((w.alloc (.cells #[.string ⟨#[]⟩, .string ⟨#[]⟩, .string ⟨#[]⟩, .int .i64 0, .slice none 0 0, .slice none 0 0] 24)).alloc (.cells #[.string ⟨#[]⟩, .string ⟨#[]⟩, .string ⟨#[]⟩, .int .i64 0, .slice none 0 0, .slice none 0 0] 24)) := ((Below.refl _ _).alloc (ρ _) _).alloc (by rw [World.size_alloc]; omega) _
 have bmR : Blk ((w.alloc (.cells #[.string ⟨#[]⟩, .string ⟨#[]⟩, .string ⟨#[]⟩, .int .i64 0, .slice none 0 0, .slice none 0 0] 24)).alloc (.cells #[.string ⟨#[]⟩, .string ⟨#[]⟩, .string ⟨#[]⟩, .int .i64 0, .slice none 0 0, .slice none 0 0] 24)) w.heap.size 24 #[.string ⟨#[]⟩, .string ⟨#[]⟩, .string ⟨#[]⟩, .int .i64 0, .slice none 0 0, .slice none 0 0] := (Blk.new w 24 #[.string ⟨#[]⟩, .string ⟨#[]⟩, .string ⟨#[]⟩, .int .i64 0, .slice none 0 0, .slice none 0 0]).alloc _
 have bmU : Blk ((w.alloc (.cells #[.string ⟨#[]⟩, .string ⟨#[]⟩, .string ⟨#[]⟩, .int .i64 0, .slice none 0 0, .slice none 0 0] 24)).alloc (.cells #[.string ⟨#[]⟩, .string ⟨#[]⟩, .string ⟨#[]⟩, .int .i64 0, .slice none 0 0, .slice none 0 0] 24)) (w.heap.size + 1) 24 #[.string ⟨#[]⟩, .string ⟨#[]⟩, .string ⟨#[]⟩, .int .i64 0, .slice none 0 0, .slice none 0 0] := by
  have := Blk.new (w.alloc (.cells #[.string ⟨#[]⟩, .string ⟨#[]⟩, .string ⟨#[]⟩, .int .i64 0, .slice none 0 0, .slice none 0 0] 24)) 24 #[.string ⟨#[]⟩, .string ⟨#[]⟩, .string ⟨#[]⟩, .int .i64 0, .slice none 0 0, .slice none 0 0]
  rwa [World.size_alloc] at this
 obtain ⟨w0, hw0⟩ : ∃ w0, w0 = (w.alloc (.cells #[.string ⟨#[]⟩, .string ⟨#[]⟩, .string ⟨#[]⟩, .int .i64 0, .slice none 0 0, .slice none 0 0] 24)).alloc (.cells #[.string ⟨#[]⟩, .string ⟨#[]⟩, .string ⟨#[]⟩, .int .i64 0, .slice none 0 0, .slice none 0 0] 24) := ⟨_, rfl⟩
 rw [← hw0] at hZ bmR bmU
 have HW0 := κ hw0
 clear hw0
 obtain ⟨r0, r1, r2, r3, r4, r5, g0, g1, g2, g3, g4, g5, zR⟩ := blk_h6 bmR
 obtain ⟨m0, m1, m2, m3, m4, m5, f0, f1, f2, f3, f4, f5, zU⟩ := blk_h6 bmU
 by_cases hok : ok = false ∨ schemeS sc = false
 case pos =>
  have HR := κ (hbad hok)
  clear hbad hgo
  cases ok
  case' true => obtain hs0 : schemeS sc = false := by rcases hok with h | h; cases h; exact h
  case' true => rw [hs0] at HSC
  case' true => clear hs0
  all_goals
   clear hok
   go_enter Tryz.func60, Tryz.ntmps60
   go_wp2_with (first | (go_at_call 47; (try rw [← HW0.out]); ((with_reducible refine (HCT.out _ (HM.out.below hZ)).mono ?_); rintro e w1 ⟨rfl, hD⟩); have hZ := hZ.trans (hD.below (B := w.heap.size)); have bmR := bmR.call (hD.below); have bmU := bmU.call (hD.below); obtain ⟨r0, r1, r2, r3, r4, r5, g0, g1, g2, g3, g4, g5, zR⟩ := blk_h6 bmR; obtain ⟨m0, m1, m2, m3, m4, m5, f0, f1, f2, f3, f4, f5, zU⟩ := blk_h6 bmU) | (go_at_call 96; ((with_reducible refine (HL.out _).mono ?_); rintro e w2 ⟨rfl, hC2⟩); have hZ := hZ.trans (hC2.mono hZ.size); have bmR := bmR.call hC2; have bmU := bmU.call hC2; obtain ⟨r0, r1, r2, r3, r4, r5, g0, g1, g2, g3, g4, g5, zR⟩ := blk_h6 bmR; obtain ⟨m0, m1, m2, m3, m4, m5, f0, f1, f2, f3, f4, f5, zU⟩ := blk_h6 bmU) | (go_at_call 109; ((with_reducible refine (HSC.out _).mono ?_); rintro e wx ⟨rfl, rfl⟩)))
   refine bodyPost_ret (v := .tuple #[.agg #[.string ⟨#[]⟩, .string ⟨#[]⟩, .string ⟨#[]⟩, .int .i64 0, .slice none 0 0, .slice none 0 0], .int .i64 30]) (by simp [results, Tryz.results60, go_sem, r0, r1, r2, r3, r4, r5]) rfl ?_
   exact uriErr HR.out (((((((hZ.setCell (Nat.le_succ _) _).setCell (ρ _) _).setCell (ρ _) _).setCell (ρ _) _).setCell (ρ _) _).setCell (ρ _) _).setCell (ρ _) _)
 obtain rfl : ok = true := by cases ok; exact absurd (.inl rfl) hok; rfl
 have hs1 : schemeS sc = true := by cases h : schemeS sc; exact absurd (.inr h) hok; rfl
 have HRg := κ (hgo rfl hs1)
 rw [hs1] at HSC
 clear hbad hgo hok
 have HCT2 := κ (fun wx hx => cut_c (bs rest) (by rw [size_bs]; omega) 64 wx hx)
 rw [us_bs] at HCT2
 have hcl2 := cutb_le 64 rest
 have hc2 := parseU2_cases sc rest
 rw [← HRg.out] at hc2
 clear HRg
 obtain ⟨q, hq⟩ : ∃ q, q = cutb 64 rest := ⟨_, rfl⟩
 rw [← hq] at HCT2 hc2 hcl2
 clear hq
 obtain ⟨ua, ub, has⟩ := q
 dsimp only at HCT2 hc2 hcl2
 obtain ⟨RS, hRS⟩ : ∃ x, x = bs rest := ⟨_, rfl⟩
 rw [← hRS] at HCT HCT2
 have hRSu : us RS = rest := by rw [hRS, us_bs]
 have hRSl : RS.size ≤ 4294967280 := by rw [hRS, size_bs]; omega
 have HPL := κ (fun wx => plain_c (bs ua) ⟨#[38, 61, 43, 36, 44, 59, 63, 47]⟩ (by rw [size_bs]; omega) wx)
 rw [us_bs, show us ⟨#[38, 61, 43, 36, 44, 59, 63, 47]⟩ = kUsers from rfl] at HPL
 have hul := optB_len ua kUsers
 obtain ⟨uu, huu⟩ : ∃ x, x = optB (writtenS ua kUsers) := ⟨_, rfl⟩
 rw [← huu] at HPL hc2 hul
 clear huu hRS
 obtain ⟨un, uok⟩ := uu
 dsimp only at HPL hc2 hul
 obtain ⟨UN, hUN⟩ : ∃ x, x = bs un := ⟨_, rfl⟩
 rw [← hUN] at HPL
 have HUNu := κ (show us UN = un by rw [hUN, us_bs])
 have hUNl : UN.size = un.length := by rw [hUN, size_bs]
 have hun0 : un = [] ↔ UN.size = 0 := by rw [hUNl, List.length_eq_zero_iff]
 rw [hun0, ← hUNl] at hc2
 have HC2 := κ hc2
 have HUNl := κ hUNl
 have HRSu := κ hRSu
 clear hUN hun0 hc2 hUNl hRSu
 go_enter Tryz.func60, Tryz.ntmps60
 go_upto_region 6 with (first | (go_at_call 47; (try rw [← HW0.out]); ((with_reducible refine (HCT.out _ (HM.out.below hZ)).mono ?_); rintro e w1 ⟨rfl, hD⟩); have hZ := hZ.trans (hD.below (B := w.heap.size)); have bmR := bmR.call (hD.below); have bmU := bmU.call (hD.below); obtain ⟨r0, r1, r2, r3, r4, r5, g0, g1, g2, g3, g4, g5, zR⟩ := blk_h6 bmR; obtain ⟨m0, m1, m2, m3, m4, m5, f0, f1, f2, f3, f4, f5, zU⟩ := blk_h6 bmU) | (go_at_call 96; ((with_reducible refine (HL.out _).mono ?_); rintro e w2 ⟨rfl, hC2⟩); have hZ := hZ.trans (hC2.mono hZ.size); have bmR := bmR.call hC2; have bmU := bmU.call hC2; obtain ⟨r0, r1, r2, r3, r4, r5, g0, g1, g2, g3, g4, g5, zR⟩ := blk_h6 bmR; obtain ⟨m0, m1, m2, m3, m4, m5, f0, f1, f2, f3, f4, f5, zU⟩ := blk_h6 bmU) | (go_at_call 109; ((with_reducible refine (HSC.out _).mono ?_); rintro e wx ⟨rfl, rfl⟩)))
 have hZ := hZ.setCell (p := ⟨w.heap.size + 1, 0, none⟩) (Nat.le_succ _) (.string SC)
 have bmR := bmR.far (p := ⟨w.heap.size + 1, 0, none⟩) (Nat.ne_of_lt (Nat.lt_succ_self _)) (.string SC)
 have bmU : Blk _ (w.heap.size + 1) 24 #[.string SC, .string ⟨#[]⟩, .string ⟨#[]⟩, .int .i64 0, .slice none 0 0, .slice none 0 0] := bmU.set_ 0 (.string SC)
 obtain ⟨w3, e3⟩ : ∃ x, x = w2.setCell ⟨w.heap.size + 1, 0, none⟩ (.string SC) := ⟨_, rfl⟩
 rw [← e3] at hZ bmR bmU
 simp only [← e3]
 clear e3 r0 r1 r2 r3 r4 r5 g0 g1 g2 g3 g4 g5 zR m0 m1 m2 m3 m4 m5 f0 f1 f2 f3 f4 f5 zU
 obtain ⟨r0, r1, r2, r3, r4, r5, g0, g1, g2, g3, g4, g5, zR⟩ := blk_h6 bmR
 obtain ⟨m0, m1, m2, m3, m4, m5, f0, f1, f2, f3, f4, f5, zU⟩ := blk_h6 bmU
 rcases HC2.out with ⟨rfl, hR⟩ | ⟨rfl, rfl, hR⟩ | ⟨rfl, rfl, hb, hR⟩ | ⟨rfl, rfl, hb, hR⟩
 rotate_left
 ·have HR := κ hR
  clear hR
  go_wp2_with (first | (go_at_call 47; ((with_reducible refine (HCT2.out _ (HM.out.below hZ)).mono ?_); rintro e w4 ⟨rfl, hD2⟩); have hZ := hZ.trans (hD2.below (B := w.heap.size)); have bmR := bmR.call (hD2.below); have bmU := bmU.call (hD2.below); obtain ⟨r0, r1, r2, r3, r4, r5, g0, g1, g2, g3, g4, g5, zR⟩ := blk_h6 bmR; obtain ⟨m0, m1, m2, m3, m4, m5, f0, f1, f2, f3, f4, f5, zU⟩ := blk_h6 bmU) | (go_at_call 110; ((with_reducible refine (HPL.out _).mono ?_); rintro e w5 ⟨rfl, hC5⟩); have hZ := hZ.trans (hC5.mono hZ.size); have bmR := bmR.call hC5; have bmU := bmU.call hC5; obtain ⟨r0, r1, r2, r3, r4, r5, g0, g1, g2, g3, g4, g5, zR⟩ := blk_h6 bmR; obtain ⟨m0, m1, m2, m3, m4, m5, f0, f1, f2, f3, f4, f5, zU⟩ := blk_h6 bmU))
  refine bodyPost_ret (v := .tuple #[.agg #[.string ⟨#[]⟩, .string ⟨#[]⟩, .string ⟨#[]⟩, .int .i64 0, .slice none 0 0, .slice none 0 0], .int .i64 31]) (by simp [results, Tryz.results60, go_sem, r0, r1, r2, r3, r4, r5]) rfl ?_
  exact uriErr HR.out (((((((hZ.setCell (Nat.le_succ _) _).setCell (ρ _) _).setCell (ρ _) _).setCell (ρ _) _).setCell (ρ _) _).setCell (ρ _) _).setCell (ρ _) _)
 ·have HR := κ hR
  clear hR
  rcases hb with hb | hb
  obtain rfl := eq_empty hb
  clear hb
  rotate_left
  have pE := ne_empty (s := UN) (by omega)
  have pF := isEmpty_f (s := UN) (by omega)
  rotate_left
  all_goals
   go_wp2_with (first | (go_at_call 47; ((with_reducible refine (HCT2.out _ (HM.out.below hZ)).mono ?_); rintro e w4 ⟨rfl, hD2⟩); have hZ := hZ.trans (hD2.below (B := w.heap.size)); have bmR := bmR.call (hD2.below); have bmU := bmU.call (hD2.below); obtain ⟨r0, r1, r2, r3, r4, r5, g0, g1, g2, g3, g4, g5, zR⟩ := blk_h6 bmR; obtain ⟨m0, m1, m2, m3, m4, m5, f0, f1, f2, f3, f4, f5, zU⟩ := blk_h6 bmU) | (go_at_call 110; ((with_reducible refine (HPL.out _).mono ?_); rintro e w5 ⟨rfl, hC5⟩); have hZ := hZ.trans (hC5.mono hZ.size); have bmR := bmR.call hC5; have bmU := bmU.call hC5; obtain ⟨r0, r1, r2, r3, r4, r5, g0, g1, g2, g3, g4, g5, zR⟩ := blk_h6 bmR; obtain ⟨m0, m1, m2, m3, m4, m5, f0, f1, f2, f3, f4, f5, zU⟩ := blk_h6 bmU))
   refine bodyPost_ret (v := .tuple #[.agg #[.string ⟨#[]⟩, .string ⟨#[]⟩, .string ⟨#[]⟩, .int .i64 0, .slice none 0 0, .slice none 0 0], .int .i64 31]) (by simp [results, Tryz.results60, go_sem, r0, r1, r2, r3, r4, r5]) rfl ?_
   exact uriErr HR.out (((((((hZ.setCell (Nat.le_succ _) _).setCell (ρ _) _).setCell (ρ _) _).setCell (ρ _) _).setCell (ρ _) _).setCell (ρ _) _).setCell (ρ _) _)
 have hb0 : UN.size ≠ 0 := fun h => hb (.inl h)
 have hb1 : ¬ 64 < UN.size := fun h => hb (.inr h)
 clear hb
 have pE := ne_empty hb0
 have pF := isEmpty_f hb0
 obtain ⟨TT, hTT⟩ : ∃ x, x = bs ub := ⟨_, rfl⟩
 rw [← hTT] at HCT2
 have hTTl : TT.size ≤ 4294967280 := by rw [hTT, size_bs]; omega
 have HTTu := κ (show us TT = ub by rw [hTT, us_bs])
 clear hTT
 go_upto_region 12 with (first | (go_at_call 47; ((with_reducible refine (HCT2.out _ (HM.out.below hZ)).mono ?_); rintro e w4 ⟨rfl, hD2⟩); have hZ := hZ.trans (hD2.below (B := w.heap.size)); have bmR := bmR.call (hD2.below); have bmU := bmU.call (hD2.below); obtain ⟨r0, r1, r2, r3, r4, r5, g0, g1, g2, g3, g4, g5, zR⟩ := blk_h6 bmR; obtain ⟨m0, m1, m2, m3, m4, m5, f0, f1, f2, f3, f4, f5, zU⟩ := blk_h6 bmU) | (go_at_call 110; ((with_reducible refine (HPL.out _).mono ?_); rintro e w5 ⟨rfl, hC5⟩); have hZ := hZ.trans (hC5.mono hZ.size); have bmR := bmR.call hC5; have bmU := bmU.call hC5; obtain ⟨r0, r1, r2, r3, r4, r5, g0, g1, g2, g3, g4, g5, zR⟩ := blk_h6 bmR; obtain ⟨m0, m1, m2, m3, m4, m5, f0, f1, f2, f3, f4, f5, zU⟩ := blk_h6 bmU))
 have hZ := hZ.setCell (p := ⟨w.heap.size + 1, 1, none⟩) (Nat.le_succ _) (.string UN)
 have bmR := bmR.far (p := ⟨w.heap.size + 1, 1, none⟩) (Nat.ne_of_lt (Nat.lt_succ_self _)) (.string UN)
 have bmU : Blk _ (w.heap.size + 1) 24 #[.string SC, .string UN, .string ⟨#[]⟩, .int .i64 0, .slice none 0 0, .slice none 0 0] := bmU.set_ 1 (.string UN)
 obtain ⟨w13, e3⟩ : ∃ x, x = w5.setCell ⟨w.heap.size + 1, 1, none⟩ (.string UN) := ⟨_, rfl⟩
 rw [← e3] at hZ bmR bmU
 simp only [← e3]
 clear e3 r0 r1 r2 r3 r4 r5 g0 g1 g2 g3 g4 g5 zR m0 m1 m2 m3 m4 m5 f0 f1 f2 f3 f4 f5 zU
 obtain ⟨r0, r1, r2, r3, r4, r5, g0, g1, g2, g3, g4, g5, zR⟩ := blk_h6 bmR
 obtain ⟨m0, m1, m2, m3, m4, m5, f0, f1, f2, f3, f4, f5, zU⟩ := blk_h6 bmU
 rotate_left
 have HRS1 := κ hRSl
 go_upto_region 12 with (first | (go_at_call 47; ((with_reducible refine (HCT2.out _ (HM.out.below hZ)).mono ?_); rintro e w4 ⟨rfl, hD2⟩); have hZ := hZ.trans (hD2.below (B := w.heap.size)); have bmR := bmR.call (hD2.below); have bmU := bmU.call (hD2.below); obtain ⟨r0, r1, r2, r3, r4, r5, g0, g1, g2, g3, g4, g5, zR⟩ := blk_h6 bmR; obtain ⟨m0, m1, m2, m3, m4, m5, f0, f1, f2, f3, f4, f5, zU⟩ := blk_h6 bmU))
 obtain ⟨UN, hUNe⟩ : ∃ x : ByteArray, x = ⟨#[]⟩ := ⟨_, rfl⟩
 obtain ⟨un, hun⟩ : ∃ x : List UInt8, x = [] := ⟨_, rfl⟩
 obtain ⟨TT, hTT⟩ : ∃ x, x = RS := ⟨_, rfl⟩
 obtain ⟨ub, hub⟩ : ∃ x, x = rest := ⟨_, rfl⟩
 have HUNu := κ (show us UN = un by rw [hUNe, hun]; rfl)
 have hTTl : TT.size ≤ 4294967280 := by rw [hTT]; exact HRS1.out
 have HTTu := κ (show us TT = ub by rw [hTT, hub]; exact HRSu.out)
 rw [← hun, ← hub] at hR
 replace bmU := (fun {wx : World} (h : Blk wx (w.heap.size + 1) 24 #[.string SC, .string ⟨#[]⟩, .string ⟨#[]⟩, .int .i64 0, .slice none 0 0, .slice none 0 0]) => (show Blk wx (w.heap.size + 1) 24 #[.string SC, .string UN, .string ⟨#[]⟩, .int .i64 0, .slice none 0 0, .slice none 0 0] by rw [hUNe]; exact h)) bmU
 simp only [← hTT]
 clear hUNe hun hTT hub
 clear r0 r1 r2 r3 r4 r5 g0 g1 g2 g3 g4 g5 zR m0 m1 m2 m3 m4 m5 f0 f1 f2 f3 f4 f5 zU
 obtain ⟨r0, r1, r2, r3, r4, r5, g0, g1, g2, g3, g4, g5, zR⟩ := blk_h6 bmR
 obtain ⟨m0, m1, m2, m3, m4, m5, f0, f1, f2, f3, f4, f5, zU⟩ := blk_h6 bmU
 all_goals
  have hubl : ub.length ≤ 4294967280 := by rw [← HTTu.out, length_us]; exact hTTl
  have HCT3 := κ (fun wx hx => cut_c TT (by omega) 63 wx hx)
  rw [HTTu.out] at HCT3
  have hcl3 := cutb_le 63 ub
  obtain ⟨x, xs, hxs⟩ : ∃ x xs, splitc 59 (cutb 63 ub).1 = x :: xs := ⟨_, _, splitc_cut 59 _⟩
  have hc3 := parseU3_cases sc un ub x xs hxs
  rw [← hR] at hc3
  have hbx : ∀ p ∈ x :: xs, p.length ≤ 4294967280 := by rw [← hxs]; intro p hp; have := splitc_bd 59 _ p hp; omega
  have hln : (x :: xs).length ≤ 4294967281 := by rw [← hxs]; have := splitc_len 59 (cutb 63 ub).1; omega
  obtain ⟨q, hq⟩ : ∃ q, q = cutb 63 ub := ⟨_, rfl⟩
  rw [← hq] at HCT3 hcl3 hc3 hxs
  clear hq hR
  obtain ⟨fr, bk, asked⟩ := q
  dsimp only at HCT3 hcl3 hc3 hxs
  have HSP := κ (fun wx hx => splitF_c (bs fr) (by rw [size_bs]; omega) 59 wx hx)
  rw [us_bs, hxs] at HSP
  have HSP2 := κ (fun wx hx => splitF_c (bs bk) (by rw [size_bs]; omega) 38 wx hx)
  rw [us_bs] at HSP2
  have hxl := hbx x (List.mem_cons_self ..)
  have HWH := κ (fun wx hx => where_c' (bs x) (by rw [size_bs]; omega) wx hx)
  rw [us_bs] at HWH
  have hwo := where_ok x
  have HRD1 := κ (fun wx v hx hv => read_c v xs ⟨#[91, 93, 47, 58, 38, 43, 36]⟩ wx hx hv (fun p hp => hbx p (List.mem_cons_of_mem _ hp)) (by rw [List.length_cons] at hln; omega))
  rw [show us ⟨#[91, 93, 47, 58, 38, 43, 36]⟩ = kParams from rfl] at HRD1
  have HRD2 := κ (fun wx v hx hv => read_c v (splitc 38 bk) ⟨#[91, 93, 47, 63, 58, 43, 36]⟩ wx hx hv (fun p hp => by have := splitc_bd 38 _ p hp; omega) (by have := splitc_len 38 bk; omega))
  rw [show us ⟨#[91, 93, 47, 63, 58, 43, 36]⟩ = kHeaders from rfl] at HRD2
  have hpb1 := readP_bd kParams xs 4294967280 (fun p hp => hbx p (List.mem_cons_of_mem _ hp))
  have hpb2 := readP_bd kHeaders (splitc 38 bk) 4294967280 (fun p hp => by have := splitc_bd 38 _ p hp; omega)
  unfold ReadPost at HRD1 HRD2
  obtain ⟨W, hW⟩ : ∃ W, W = whereS x := ⟨_, rfl⟩
  obtain ⟨P1, hP1⟩ : ∃ W, W = optP (readGo kParams xs) := ⟨_, rfl⟩
  obtain ⟨P2, hP2⟩ : ∃ W, W = optP (readGo kHeaders (splitc 38 bk)) := ⟨_, rfl⟩
  rw [← hW] at HWH hc3 hwo
  rw [← hP1] at HRD1 hc3 hpb1
  rw [← hP2] at HRD2 hc3 hpb2
  clear hW hP1 hP2 hxs hln hbx hcl3 hxl hubl
  obtain ⟨⟨hl, p⟩, we⟩ := W
  obtain ⟨PL, pok⟩ := P1
  obtain ⟨HL2, hok2⟩ := P2
  dsimp only at HWH hc3 hwo HRD1 HRD2 hpb1 hpb2
  have HPB1 := κ hpb1
  have HPB2 := κ hpb2
  obtain ⟨HH, hHH⟩ : ∃ H, H = bs hl := ⟨_, rfl⟩
  rw [← hHH] at HWH
  have HHHu := κ (show us HH = hl by rw [hHH, us_bs])
  have HHHl := κ (show HH.size = hl.length by rw [hHH, size_bs])
  clear hHH hpb1 hpb2
  have HWO := κ hwo
  clear hwo
  have HSV := κ (show sv sc = .string SC by rw [← HSCu.out]; simp [sv])
  have HUV := κ (show sv un = .string UN by have h := HUNu.out; rw [← h]; simp [sv])
  have HHV := κ (show sv hl = .string HH by rw [← HHHu.out]; simp [sv])
  have HU0 := κ (fun (wx : World) => (show RPrms wx (.slice none 0 0) [] from .inl ⟨⟨_, _, rfl⟩, rfl⟩))
  have HCK := κ (fun (h0 : we = 0) wx u1 u2 hx h1 h2 => checkU_c SC UN HH p u1 u2 PL HL2 hSCl (by have h := (host_low _ (HWO.out h0).1).2.2; rw [← HHHl.out] at h; omega) wx hx h1 h2 HPB1.out HPB2.out)
  have HCK0 := κ (fun (h0 : we = 0) wx u1 u2 hx h1 h2 => checkU_c SC UN HH p u1 u2 PL [] hSCl (by have h := (host_low _ (HWO.out h0).1).2.2; rw [← HHHl.out] at h; omega) wx hx h1 h2 HPB1.out (fun p hp => by cases hp))
  rw [HSCu.out, HUNu.out, HHHu.out] at HCK HCK0
  obtain ⟨C, hC⟩ : ∃ C, C = checkU ⟨sc, un, hl, p, PL, HL2⟩ := ⟨_, rfl⟩
  obtain ⟨C0, hC0⟩ : ∃ C, C = checkU ⟨sc, un, hl, p, PL, []⟩ := ⟨_, rfl⟩
  unfold endU at hc3
  rw [← hC, ← hC0] at hc3
  rw [← hC] at HCK
  rw [← hC0] at HCK0
  clear hC hC0
  rcases hc3 with ⟨hw, hR⟩ | ⟨rfl, rfl, hR⟩ | ⟨rfl, rfl, rfl, rfl, hR⟩ | ⟨rfl, rfl, rfl, hR⟩ | ⟨rfl, rfl, rfl, rfl, hR⟩
  all_goals try (have t7 : (we != 0) = true := by simpa using hw)
  all_goals try clear hw
  rotate_left
  cases asked
  rotate_left 3
  by_cases hc0 : C0 = 0
  rotate_left 2
  by_cases hc0 : C = 0
  rotate_left 2
  all_goals try (rw [if_neg hc0] at hR; first | (have t9 : (C0 != 0) = true := by simpa using hc0) | (have t9 : (C != 0) = true := by simpa using hc0))
  all_goals try (subst hc0; rw [if_pos rfl] at hR)
  all_goals have HR := κ hR
  all_goals clear hR
  all_goals try clear hc0
  all_goals go_wp2_with (first | (go_at_call 47; ((with_reducible refine (HCT3.out _ (HM.out.below hZ)).mono ?_); rintro e w6 ⟨rfl, hD3⟩); have hZ := hZ.trans (hD3.below (B := w.heap.size)); have bmR := bmR.call (hD3.below); have bmU := bmU.call (hD3.below); obtain ⟨r0, r1, r2, r3, r4, r5, g0, g1, g2, g3, g4, g5, zR⟩ := blk_h6 bmR; obtain ⟨m0, m1, m2, m3, m4, m5, f0, f1, f2, f3, f4, f5, zU⟩ := blk_h6 bmU) | (go_at_call 111; ((with_reducible refine (HSP.out _ (HM.out.below hZ)).mono ?_); rintro e w7 ⟨v, rfl, hv, hFv, hC7⟩); have hFv := hFv.mono (show w.heap.size + 2 ≤ _ from zU); have hZ := hZ.trans (hC7.mono hZ.size); have bmR := bmR.call hC7; have bmU := bmU.call hC7; obtain ⟨r0, r1, r2, r3, r4, r5, g0, g1, g2, g3, g4, g5, zR⟩ := blk_h6 bmR; obtain ⟨m0, m1, m2, m3, m4, m5, f0, f1, f2, f3, f4, f5, zU⟩ := blk_h6 bmU; have HV := κ hv; obtain ⟨ao, cap, rfl, hm1, c1⟩ := hv.form; obtain ⟨b, off, rfl, hb1, hc1⟩ := c1 (by simp); have x0 := hc1 0 (by simp); rw [Nat.add_zero] at x0; have k1 : (0 : Int) < ((x :: xs).length : Int) := (by simp); have HFV := κ hFv; clear hc1 c1 hv hFv; unfold maxLen at hm1) | (go_at_call 112; ((with_reducible refine (HWH.out _ (HM.out.below hZ)).mono ?_); rintro e w8 ⟨rfl, hC8⟩); have hZ := hZ.trans (hC8.mono hZ.size); have bmR := bmR.call hC8; have bmU := bmU.call hC8; obtain ⟨r0, r1, r2, r3, r4, r5, g0, g1, g2, g3, g4, g5, zR⟩ := blk_h6 bmR; obtain ⟨m0, m1, m2, m3, m4, m5, f0, f1, f2, f3, f4, f5, zU⟩ := blk_h6 bmU; have HV := κ (HV.out.below hC8 (ρ _)); have hZ := hZ.setCell (p := ⟨w.heap.size + 1, 2, none⟩) (Nat.le_succ _) (.string HH); have bmR := bmR.far (p := ⟨w.heap.size + 1, 2, none⟩) (Nat.ne_of_lt (Nat.lt_succ_self _)) (.string HH); have bmU : Blk _ (w.heap.size + 1) 24 #[.string SC, .string UN, .string HH, .int .i64 0, (.slice none 0 0), (.slice none 0 0)] := bmU.set_ 2 (.string HH); have hZ := hZ.setCell (p := ⟨w.heap.size + 1, 3, none⟩) (Nat.le_succ _) (.int .i64 p); have bmR := bmR.far (p := ⟨w.heap.size + 1, 3, none⟩) (Nat.ne_of_lt (Nat.lt_succ_self _)) (.int .i64 p); have bmU : Blk _ (w.heap.size + 1) 24 #[.string SC, .string UN, .string HH, .int .i64 p, (.slice none 0 0), (.slice none 0 0)] := bmU.set_ 3 (.int .i64 p); have HV := κ ((HV.out.setF HFV.out (p := ⟨w.heap.size + 1, 2, none⟩) (show w.heap.size + 1 < w.heap.size + 2 by omega) (.string HH)).setF HFV.out (p := ⟨w.heap.size + 1, 3, none⟩) (show w.heap.size + 1 < w.heap.size + 2 by omega) (.int .i64 p))) | (go_at_call 113; ((with_reducible refine (HRD1.out _ _ (HM.out.below hZ) (by first | exact HV.out.tailB | exact HV.out.tailA (by first | assumption | omega))).mono ?_); rintro e w9 ⟨u1, rfl, hu1, hF1, hC9⟩); have hF1 := hF1.mono (show w.heap.size + 2 ≤ _ from bmU.lt); have hZ := hZ.trans (hC9.mono hZ.size); have bmR := bmR.call hC9; have bmU := bmU.call hC9; obtain ⟨r0, r1, r2, r3, r4, r5, g0, g1, g2, g3, g4, g5, zR⟩ := blk_h6 bmR; obtain ⟨m0, m1, m2, m3, m4, m5, f0, f1, f2, f3, f4, f5, zU⟩ := blk_h6 bmU; obtain ⟨ao1, cp1, rfl, _, _⟩ := hu1.form; have hZ := hZ.setCell (p := ⟨w.heap.size + 1, 4, none⟩) (Nat.le_succ _) (.slice ao1 PL.length cp1); have bmR := bmR.far (p := ⟨w.heap.size + 1, 4, none⟩) (Nat.ne_of_lt (Nat.lt_succ_self _)) (.slice ao1 PL.length cp1); have bmU : Blk _ (w.heap.size + 1) 24 #[.string SC, .string UN, .string HH, .int .i64 p, (.slice ao1 PL.length cp1), (.slice none 0 0)] := bmU.set_ 4 (.slice ao1 PL.length cp1); have HU1 := κ (hu1.set hF1 (p := ⟨w.heap.size + 1, 4, none⟩) (show w.heap.size + 1 < w.heap.size + 2 by omega) (.slice ao1 PL.length cp1)); have HF1 := κ hF1; clear hu1 hF1) | (go_at_call 111; ((with_reducible refine (HSP2.out _ (HM.out.below hZ)).mono ?_); rintro e w10 ⟨v2, rfl, hv2, hFv2, hC10⟩); have HU1 := κ (HU1.out.below hC10 (ρ _)); have hZ := hZ.trans (hC10.mono hZ.size); have bmR := bmR.call hC10; have bmU := bmU.call hC10; obtain ⟨r0, r1, r2, r3, r4, r5, g0, g1, g2, g3, g4, g5, zR⟩ := blk_h6 bmR; obtain ⟨m0, m1, m2, m3, m4, m5, f0, f1, f2, f3, f4, f5, zU⟩ := blk_h6 bmU) | (go_at_call 113; ((with_reducible refine (HRD2.out _ _ (HM.out.below hZ) hv2).mono ?_); rintro e w11 ⟨u2, rfl, hu2, hF2, hC11⟩); have hF2 := hF2.mono (show w.heap.size + 2 ≤ _ from bmU.lt); have HU1 := κ (HU1.out.below hC11 (ρ _)); have hZ := hZ.trans (hC11.mono hZ.size); have bmR := bmR.call hC11; have bmU := bmU.call hC11; obtain ⟨r0, r1, r2, r3, r4, r5, g0, g1, g2, g3, g4, g5, zR⟩ := blk_h6 bmR; obtain ⟨m0, m1, m2, m3, m4, m5, f0, f1, f2, f3, f4, f5, zU⟩ := blk_h6 bmU; obtain ⟨ao2, cp2, rfl, _, _⟩ := hu2.form; have hZ := hZ.setCell (p := ⟨w.heap.size + 1, 5, none⟩) (Nat.le_succ _) (.slice ao2 HL2.length cp2); have bmR := bmR.far (p := ⟨w.heap.size + 1, 5, none⟩) (Nat.ne_of_lt (Nat.lt_succ_self _)) (.slice ao2 HL2.length cp2); have bmU : Blk _ (w.heap.size + 1) 24 #[.string SC, .string UN, .string HH, .int .i64 p, (.slice ao1 PL.length cp1), (.slice ao2 HL2.length cp2)] := bmU.set_ 5 (.slice ao2 HL2.length cp2); have HU1 := κ (HU1.out.set HF1.out (p := ⟨w.heap.size + 1, 5, none⟩) (show w.heap.size + 1 < w.heap.size + 2 by omega) (.slice ao2 HL2.length cp2)); have HU2 := κ (hu2.set hF2 (p := ⟨w.heap.size + 1, 5, none⟩) (show w.heap.size + 1 < w.heap.size + 2 by omega) (.slice ao2 HL2.length cp2)); have HF2 := κ hF2; clear hu2 hF2) | (go_at_call 81; (first | ((with_reducible refine (HCK.out (by trivial) _ _ _ (HM.out.below hZ) HU1.out HU2.out).mono ?_); rintro e w12 ⟨rfl, hC12⟩; have HU2 := κ (HU2.out.below hC12 (ρ _))) | ((with_reducible refine (HCK0.out (by trivial) _ _ _ (HM.out.below hZ) HU1.out (HU0.out _)).mono ?_); rintro e w12 ⟨rfl, hC12⟩)); have HU1 := κ (HU1.out.below hC12 (ρ _)); have hZ := hZ.trans (hC12.mono hZ.size); have bmR := bmR.call hC12; have bmU := bmU.call hC12; obtain ⟨r0, r1, r2, r3, r4, r5, g0, g1, g2, g3, g4, g5, zR⟩ := blk_h6 bmR; obtain ⟨m0, m1, m2, m3, m4, m5, f0, f1, f2, f3, f4, f5, zU⟩ := blk_h6 bmU))
  all_goals first | (refine bodyPost_ret (v := .tuple #[.agg #[.string ⟨#[]⟩, .string ⟨#[]⟩, .string ⟨#[]⟩, .int .i64 0, .slice none 0 0, .slice none 0 0], .int .i64 34]) (by simp [results, Tryz.results60, go_sem, r0, r1, r2, r3, r4, r5]) rfl ?_; exact uriErr HR.out ((((((hZ.setCell (ρ _) _).setCell (ρ _) _).setCell (ρ _) _).setCell (ρ _) _).setCell (ρ _) _).setCell (ρ _) _)) | (refine bodyPost_ret (v := .tuple #[.agg #[.string ⟨#[]⟩, .string ⟨#[]⟩, .string ⟨#[]⟩, .int .i64 0, .slice none 0 0, .slice none 0 0], .int .i64 we]) (by simp [results, Tryz.results60, go_sem, r0, r1, r2, r3, r4, r5]) rfl ?_; exact uriErr HR.out ((((((hZ.setCell (ρ _) _).setCell (ρ _) _).setCell (ρ _) _).setCell (ρ _) _).setCell (ρ _) _).setCell (ρ _) _)) | (refine bodyPost_ret (v := .tuple #[.agg #[.string ⟨#[]⟩, .string ⟨#[]⟩, .string ⟨#[]⟩, .int .i64 0, .slice none 0 0, .slice none 0 0], .int .i64 C0]) (by simp [results, Tryz.results60, go_sem, r0, r1, r2, r3, r4, r5]) rfl ?_; exact uriErr HR.out ((((((hZ.setCell (ρ _) _).setCell (ρ _) _).setCell (ρ _) _).setCell (ρ _) _).setCell (ρ _) _).setCell (ρ _) _)) | (refine bodyPost_ret (v := .tuple #[.agg #[.string ⟨#[]⟩, .string ⟨#[]⟩, .string ⟨#[]⟩, .int .i64 0, .slice none 0 0, .slice none 0 0], .int .i64 C]) (by simp [results, Tryz.results60, go_sem, r0, r1, r2, r3, r4, r5]) rfl ?_; exact uriErr HR.out ((((((hZ.setCell (ρ _) _).setCell (ρ _) _).setCell (ρ _) _).setCell (ρ _) _).setCell (ρ _) _).setCell (ρ _) _)) | (refine bodyPost_ret (v := .tuple #[.agg #[.string SC, .string UN, .string HH, .int .i64 p, .slice ao1 PL.length cp1, (.slice ao2 HL2.length cp2)], .int .i64 0]) (by simp [results, Tryz.results60, go_sem, r0, r1, r2, r3, r4, r5]) rfl ?_; exact ⟨_, _, by (rw [HR.out]; show _ = Ending.returned (.tuple #[.agg #[sv sc, sv un, sv hl, .int .i64 p, _, _], .int .i64 0]); rw [HSV.out, HUV.out, HHV.out]), (by rw [HR.out]; exact (RPrms.set (RPrms.set (RPrms.set (RPrms.set (RPrms.set (RPrms.set HU1.out HF1.out (p := ⟨w.heap.size, 0, none⟩) (show w.heap.size < w.heap.size + 2 by omega) _) HF1.out (p := ⟨w.heap.size, 1, none⟩) (show w.heap.size < w.heap.size + 2 by omega) _) HF1.out (p := ⟨w.heap.size, 2, none⟩) (show w.heap.size < w.heap.size + 2 by omega) _) HF1.out (p := ⟨w.heap.size, 3, none⟩) (show w.heap.size < w.heap.size + 2 by omega) _) HF1.out (p := ⟨w.heap.size, 4, none⟩) (show w.heap.size < w.heap.size + 2 by omega) _) HF1.out (p := ⟨w.heap.size, 5, none⟩) (show w.heap.size < w.heap.size + 2 by omega) _)), (by rw [HR.out]; exact (RPrms.set (RPrms.set (RPrms.set (RPrms.set (RPrms.set (RPrms.set HU2.out HF2.out (p := ⟨w.heap.size, 0, none⟩) (show w.heap.size < w.heap.size + 2 by omega) _) HF2.out (p := ⟨w.heap.size, 1, none⟩) (show w.heap.size < w.heap.size + 2 by omega) _) HF2.out (p := ⟨w.heap.size, 2, none⟩) (show w.heap.size < w.heap.size + 2 by omega) _) HF2.out (p := ⟨w.heap.size, 3, none⟩) (show w.heap.size < w.heap.size + 2 by omega) _) HF2.out (p := ⟨w.heap.size, 4, none⟩) (show w.heap.size < w.heap.size + 2 by omega) _) HF2.out (p := ⟨w.heap.size, 5, none⟩) (show w.heap.size < w.heap.size + 2 by omega) _)), HF1.out.mono (by omega), HF2.out.mono (by omega), ((((((hZ.setCell (ρ _) _).setCell (ρ _) _).setCell (ρ _) _).setCell (ρ _) _).setCell (ρ _) _).setCell (ρ _) _)⟩) | (refine bodyPost_ret (v := .tuple #[.agg #[.string SC, .string UN, .string HH, .int .i64 p, .slice ao1 PL.length cp1, (.slice none 0 0)], .int .i64 0]) (by simp [results, Tryz.results60, go_sem, r0, r1, r2, r3, r4, r5]) rfl ?_; exact ⟨_, _, by (rw [HR.out]; show _ = Ending.returned (.tuple #[.agg #[sv sc, sv un, sv hl, .int .i64 p, _, _], .int .i64 0]); rw [HSV.out, HUV.out, HHV.out]), (by rw [HR.out]; exact (RPrms.set (RPrms.set (RPrms.set (RPrms.set (RPrms.set (RPrms.set HU1.out HF1.out (p := ⟨w.heap.size, 0, none⟩) (show w.heap.size < w.heap.size + 2 by omega) _) HF1.out (p := ⟨w.heap.size, 1, none⟩) (show w.heap.size < w.heap.size + 2 by omega) _) HF1.out (p := ⟨w.heap.size, 2, none⟩) (show w.heap.size < w.heap.size + 2 by omega) _) HF1.out (p := ⟨w.heap.size, 3, none⟩) (show w.heap.size < w.heap.size + 2 by omega) _) HF1.out (p := ⟨w.heap.size, 4, none⟩) (show w.heap.size < w.heap.size + 2 by omega) _) HF1.out (p := ⟨w.heap.size, 5, none⟩) (show w.heap.size < w.heap.size + 2 by omega) _)), (by rw [HR.out]; exact .inl ⟨⟨_, _, rfl⟩, rfl⟩), HF1.out.mono (by omega), Fresh.nil _ _ _, ((((((hZ.setCell (ρ _) _).setCell (ρ _) _).setCell (ρ _) _).setCell (ρ _) _).setCell (ρ _) _).setCell (ρ _) _)⟩)
def sumJ : List (List UInt8) → Nat
 | [] => 0
 | x :: r => x.length + sumJ r
theorem sumJ_take (L : List (List UInt8)) (k : Nat) (h : k < L.length) : sumJ (L.take (k + 1)) = sumJ (L.take k) + L[k].length := by
 induction L generalizing k with
 | nil => simp at h
 | cons x r ih =>
  cases k with
  | zero => simp [sumJ]
  | succ k =>
   have := ih k (by simpa using h)
   simp only [List.take_succ_cons, sumJ, List.getElem_cons_succ] at this ⊢
   omega
theorem sumJ_le : ∀ (L : List (List UInt8)) (k : Nat), sumJ (L.take k) ≤ sumJ L
 | [], k => by simp [sumJ]
 | x :: r, 0 => Nat.zero_le _
 | x :: r, k + 1 => by
  have := sumJ_le r k
  rw [List.take_succ_cons, sumJ, sumJ]; omega
theorem glue_snocJ (sep : List UInt8) : ∀ (L : List (List UInt8)) (x : List UInt8), L ≠ [] → glue sep (L ++ [x]) = glue sep L ++ (sep ++ x)
 | [], _, h => absurd rfl h
 | [a], x, _ => rfl
 | a :: b :: r, x, _ => by
  have ih := glue_snocJ sep (b :: r) x (by simp)
  show a ++ (sep ++ glue sep ((b :: r) ++ [x])) = (a ++ (sep ++ glue sep (b :: r))) ++ (sep ++ x)
  rw [ih]; simp
theorem glue_takeJ (sep : List UInt8) (L : List (List UInt8)) (k : Nat) (h : k + 1 < L.length) : glue sep (L.take (k + 2)) = glue sep (L.take (k + 1)) ++ (sep ++ L[k + 1]) := by
 rw [List.take_succ_eq_append_getElem (i := k + 1) h, glue_snocJ sep _ _ (by intro e; have := congrArg List.length e; rw [List.length_take, List.length_nil] at this; omega)]
theorem glueJ_len : ∀ (L : List (List UInt8)) (k : Nat), (glue [32] (L.take k)).length ≤ sumJ L + L.length := by
 have key : ∀ L : List (List UInt8), (glue [32] L).length ≤ sumJ L + L.length := by
  intro L
  induction L with
  | nil => exact Nat.zero_le _
  | cons x r ih =>
   cases r with
   | nil => show x.length ≤ x.length + 0 + 1; omega
   | cons y s =>
    show (x ++ ([32] ++ glue [32] (y :: s))).length ≤ x.length + sumJ (y :: s) + ((y :: s).length + 1)
    rw [List.length_append, List.length_append]
    have : ([32] : List UInt8).length = 1 := rfl
    omega
 intro L k
 have h1 := key (L.take k)
 have h2 := sumJ_le L k
 have h3 : (L.take k).length ≤ L.length := by rw [List.length_take]; omega
 omega
set_option maxHeartbeats 6400000 in
theorem join_c (v : Value) (L : List (List UInt8)) (w : World) (h1 : RStrs w v L) (hbd : sumJ L + L.length ≤ 1099511627776) :
  Calls Tryz.prog 108 #[v, .string ⟨#[32]⟩] w fun e w' => e = .returned (.string (bs (glue [32] L))) ∧ Below w.heap.size w w' := by
 obtain ⟨ao, cap, rfl, hm1, c1⟩ := h1.form
 have C1 := κ c1
 have hcapF : 0 < L.length → L.length ≤ cap := by
  intro h0
  rcases h1.cases with ⟨_, h⟩ | ⟨b, off, c, h, hc, _⟩
  ·rw [h] at h0; cases h0
  ·injection h with _ _ h; omega
 clear c1 h1
 unfold maxLen at hm1
 by_cases h0 : L.length = 0
 ·obtain rfl := List.eq_nil_of_length_eq_zero h0
  clear h0 hcapF
  go_enter Tryz.func108, Tryz.ntmps108
  go_wp2
  go_ret
  exact ⟨rfl, Below.refl _ _⟩
 obtain ⟨b, off, rfl, hb1, hc1⟩ := C1.out (by omega)
 by_cases h2 : L.length = 1
 ·obtain ⟨x, rfl⟩ : ∃ x, L = [x] := by
   match L, h2 with
   | [x], _ => exact ⟨x, rfl⟩
  have x0 : w.cell? ⟨b, off, none⟩ = some (.string (bs x)) := hc1 0 (Nat.zero_lt_one)
  clear h0 h2 hc1 hcapF
  go_enter Tryz.func108, Tryz.ntmps108
  go_wp2
  go_ret
  exact ⟨rfl, Below.refl _ _⟩
 have hL2 : 2 ≤ L.length := by omega
 have hcp : L.length ≤ cap := hcapF (by omega)
 have HC := κ hc1
 have t0 : ((L.length : Int) == 0) = false := by rw [beq_eq_false_iff_ne]; omega
 have t1 : ((L.length : Int) == 1) = false := by rw [beq_eq_false_iff_ne]; omega
 have hsl := κ (sumJ_le L)
 have hbl : L.length ≤ 1099511627776 := by omega
 have q0 : ¬ ((9223372036854775807 : Int) / ((L.length : Int) - 1) ≤ 1) := by
  intro h
  have h3 : (9223372036854775807 : Int) < 2 * ((L.length : Int) - 1) := by
   have := Int.lt_mul_of_ediv_lt (a := 9223372036854775807) (b := 2) (c := (L.length : Int) - 1) (by omega) (by omega)
   omega
  omega
 clear h0 h2 hc1 hcapF
 go_enter Tryz.func108, Tryz.ntmps108
 go_wp2
 go_loop [5, 41] (fun n i => ∃ k N : Nat, k ≤ L.length ∧ i = .int .i64 k ∧ n = .int .i64 N ∧ Hid (N + 1 = L.length + sumJ (L.take k)) ∧ N ≤ 1099511627776) (fun _ i => L.length - (intOf i).toNat)
 case atStart => exact ⟨0, L.length - 1, Nat.zero_le _, rfl, by congr 1; omega, κ (by simp [sumJ]; omega), by omega⟩
 case round =>
  obtain ⟨k, N, hk, rfl, rfl, HN, hN⟩ := hrel
  by_cases hlt : k < L.length
  ·have x0 : w.cell? ⟨b, off + k, none⟩ = some (.string (bs L[k])) := HC.out k hlt
   have hst := sumJ_take L k hlt
   have hle := hsl.out (k + 1)
   obtain ⟨X, hX⟩ : ∃ X, X = bs L[k] := ⟨_, rfl⟩
   have hXs : X.size = L[k].length := by rw [hX, size_bs]
   rw [← hX] at x0
   have hn1 := HN.out
   have hN2 : N + X.size ≤ 1099511627776 := by omega
   have HN2 := κ (show (N + X.size) + 1 = L.length + sumJ (L.take (k + 1)) by omega)
   have hXb : X.size ≤ 1099511627776 := by omega
   clear hst hle hX hXs hn1
   have k0 : (0 : Int) ≤ (k : Int) := by omega
   have k1 : (k : Int) < (L.length : Int) := by omega
   go_wp2
   go_round
   case rel => exact ⟨k + 1, N + X.size, by omega, by go_num, by simp, HN2, hN2⟩
   case measure => simp [intOf]; omega
  ·have x0 : w.cell? ⟨b, off, none⟩ = some (.string (bs L[0])) := HC.out 0 (by omega)
   have hn1 := HN.out
   rw [List.take_of_length_le (by omega)] at hn1
   have h0t := sumJ_take L 0 (by omega)
   have h0l := hsl.out (0 + 1)
   obtain ⟨X, hX⟩ : ∃ X, X = bs L[0] := ⟨_, rfl⟩
   have hXs : X.size = L[0].length := by rw [hX, size_bs]
   have HX0 := κ (show us X = glue [32] (L.take 1) by
    rw [hX, us_bs]
    cases L with
    | nil => exact absurd hL2 (by decide)
    | cons x r => rfl)
   rw [← hX] at x0
   have hXb : X.size ≤ 1099511627776 := by omega
   clear h0t h0l hX hXs hn1
   have hcap1 : ¬ (cap = 1) := by omega
   have hBA : Below w.heap.size w (w.alloc (.cells #[.pointer none, .slice none 0 0] 142)) := (Below.refl _ _).alloc (ρ _) _
   have HBK := κ (heap_alloc_new w (.cells #[.pointer none, .slice none 0 0] 142))
   have e32 : (⟨#[32]⟩ : ByteArray).size = 1 := rfl
   go_wp2_with (first | (go_at_call 153; refine (Tryz.Builder_Grow_fresh w.heap.size w.heap.size N _ (ρ _) HBK.out hBA.size (by omega)).mono ?_; rintro e w1 ⟨rfl, hbq, hB1⟩; have hWr : Bld w.heap.size w.heap.size [] w1 := .inr hbq; have hBr := hBA.trans hB1; have y0 : w1.cell? ⟨b, off, none⟩ = some (.string X) := (hBr.cell (p := ⟨b, off, none⟩) hb1).trans x0) | (go_at_call 84; (with_reducible refine (bld_write w.heap.size w.heap.size _ _ _ hWr (by (try simp only [List.length_append]); (try simp only [List.length_nil]); (try simp only [length_us]); omega) hBr.size).mono ?_); rintro e w5 ⟨rfl, hWr, hB5⟩; have hBr := hBr.trans hB5))
   rw [List.nil_append] at hWr
   obtain ⟨l0, hl0⟩ : ∃ l, l = us X := ⟨_, rfl⟩
   rw [← hl0] at hWr
   have HL0 := κ (show l0 = glue [32] (L.take 1) by rw [hl0, HX0.out])
   clear hl0
   go_loopw [65] (fun i wr => ∃ (k : Nat) (l : List UInt8), k + 1 ≤ L.length ∧ i = .int .i64 k ∧ Hid (l = glue [32] (L.take (k + 1))) ∧ Bld w.heap.size w.heap.size l wr ∧ Below w.heap.size w wr) (fun i _ => L.length - (intOf i).toNat)
   case atStart => exact ⟨0, l0, by omega, rfl, HL0, hWr, hBr⟩
   case round =>
    clear hWr hBr
    obtain ⟨k, l, hk, rfl, HL, hWr, hBr⟩ := hrel
    have hgl := glueJ_len L (k + 1)
    have hll : l.length ≤ 1099511627776 := by rw [HL.out]; omega
    clear hgl
    by_cases hlt : k + 1 < L.length
    ·have x1 : wr.cell? ⟨b, off + 1 + k, none⟩ = some (.string (bs L[k + 1])) := by
      rw [hBr.cell (p := ⟨b, off + 1 + k, none⟩) hb1, show off + 1 + k = off + (k + 1) by omega]; exact HC.out (k + 1) hlt
     have hst := sumJ_take L (k + 1) hlt
     have hle := hsl.out (k + 1 + 1)
     have HGT := κ (glue_takeJ [32] L k hlt)
     obtain ⟨Y, hY⟩ : ∃ X, X = bs L[k + 1] := ⟨_, rfl⟩
     have hYs : Y.size ≤ 1099511627776 := by rw [hY, size_bs]; omega
     have HYu := κ (show us Y = L[k + 1] by rw [hY, us_bs])
     rw [← hY] at x1
     clear hY hst hle
     have k0 : (0 : Int) ≤ (k : Int) := by omega
     have k1 : (k : Int) < (L.length : Int) - 1 := by omega
     have k2 : k < L.length - 1 := by omega
     have k3 : (k : Int) < ((L.length - 1 : Nat) : Int) := by omega
     go_wp2_with (first | (go_at_call 84; (with_reducible refine (bld_write w.heap.size w.heap.size _ _ _ hWr (by (try simp only [List.length_append]); (try simp only [List.length_nil]); (try simp only [length_us]); omega) hBr.size).mono ?_); rintro e w5 ⟨rfl, hWr, hB5⟩; have hBr := hBr.trans hB5))
     go_roundw
     case rel => exact ⟨k + 1, _, by omega, by go_num, κ (by rw [HGT.out, HL.out, HYu.out]; simp [us]), hWr, hBr⟩
     case measure => simp [intOf]; omega
    ·have k1 : ¬ ((k : Int) < (L.length : Int) - 1) := by omega
     have k2 : ¬ (k < L.length - 1) := by omega
     have k3 : ¬ ((k : Int) < ((L.length - 1 : Nat) : Int)) := by omega
     have hkL : k + 1 = L.length := by omega
     have HL2 := HL.out
     rw [hkL, List.take_of_length_le (ρ _)] at HL2
     have HLf := κ HL2
     clear HL2 hkL
     go_wp2_with (go_at_call 87; refine (bld_str _ _ l _ hWr hBr.size).mono ?_; rintro e w8 ⟨rfl, hB8⟩)
     go_ret
     exact ⟨ret_bs (by rw [us_bs, HLf.out]), hBr.trans hB8⟩
end Go.Proofs.YtipdiddjhimdcaaGreatDoor
