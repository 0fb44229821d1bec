/- Contracts of Go functions, and plain laws. No condition but those told. -/
import Derived.Test.YtipdiddjhimdcaaGreatDoorR10
import Derived.Test.YtipdiddjhimdcaaGreatDoorR11
import Derived.Test.YtipdiddjhimdcaaGreatDoorR12
import Derived.Test.YtipdiddjhimdcaaGreatDoorR01
import Derived.Test.YtipdiddjhimdcaaGreatDoorR03
import Derived.Test.YtipdiddjhimdcaaGreatDoorR04
import Derived.Test.YtipdiddjhimdcaaGreatDoorR05
set_option linter.unusedSimpArgs false
set_option linter.unusedVariables false
set_option maxRecDepth 100000
namespace Go.Proofs.YtipdiddjhimdcaaGreatDoor
open Go.RowKit
theorem blk_h8 {w : World} {g : Nat} {t : TypeId} {a b c d e f i j : Value} (h : Blk w g t #[a, b, c, d, e, f, i, j]) :
  w.cell? ⟨g, 0, none⟩ = some a ∧ w.cell? ⟨g, 1, none⟩ = some b ∧ w.cell? ⟨g, 2, none⟩ = some c ∧ w.cell? ⟨g, 3, none⟩ = some d ∧ w.cell? ⟨g, 4, none⟩ = some e ∧ w.cell? ⟨g, 5, none⟩ = some f ∧ w.cell? ⟨g, 6, none⟩ = some i ∧ w.cell? ⟨g, 7, none⟩ = some j ∧
  w.frozen? ⟨g, 0, none⟩ = false ∧ w.frozen? ⟨g, 1, none⟩ = false ∧ w.frozen? ⟨g, 2, none⟩ = false ∧ w.frozen? ⟨g, 3, none⟩ = false ∧ w.frozen? ⟨g, 4, none⟩ = false ∧ w.frozen? ⟨g, 5, none⟩ = false ∧ w.frozen? ⟨g, 6, none⟩ = false ∧ w.frozen? ⟨g, 7, none⟩ = false ∧ g < w.heap.size :=
 ⟨boxedCell h 0, boxedCell h 1, boxedCell h 2, boxedCell h 3, boxedCell h 4, boxedCell h 5, boxedCell h 6, boxedCell h 7, boxedFree h 0, boxedFree h 1, boxedFree h 2, boxedFree h 3, boxedFree h 4, boxedFree h 5, boxedFree h 6, boxedFree h 7, h.lt⟩
def AdrPost (r : Adr × Int) (w : World) (e : Ending) (w' : World) : Prop :=
 ∃ u1 u2 u3, e = .returned (.tuple #[.agg #[sv r.1.disp, sv r.1.uri.scheme, sv r.1.uri.user, sv r.1.uri.host, .int .i64 r.1.uri.port, u1, u2, u3], .int .i64 r.2]) ∧ RPrms w' u1 r.1.uri.ps ∧ RPrms w' u2 r.1.uri.hs ∧ RPrms w' u3 r.1.ps ∧
  Fresh w.heap.size u1 ∧ Fresh w.heap.size u2 ∧ Fresh w.heap.size u3 ∧ Below w.heap.size w w'
theorem adrErr {R : Adr × Int} {c : Int} {w w' : World} (h : R = (adr0, c)) (hB : Below w.heap.size w w') : AdrPost R w (.returned (.tuple #[.agg #[.string ⟨#[]⟩, .string ⟨#[]⟩, .string ⟨#[]⟩, .string ⟨#[]⟩, .int .i64 0, (.slice none 0 0), (.slice none 0 0), (.slice none 0 0)], .int .i64 c])) w' := by
 subst h
 exact ⟨_, _, _, rfl, .inl ⟨⟨_, _, rfl⟩, rfl⟩, .inl ⟨⟨_, _, rfl⟩, rfl⟩, .inl ⟨⟨_, _, rfl⟩, rfl⟩, Fresh.nil _ _ _, Fresh.nil _ _ _, Fresh.nil _ _ _, hB⟩
theorem idx_cutQ (c : UInt8) : ∀ l : List UInt8, Lib.indexByte (l ++ [c]) c = ((cutb c l).1.length : Int)
 | [] => by rw [List.nil_append, Lib.indexByte, if_pos (by simp)]; rfl
 | b :: l => by
  rw [List.cons_append, Lib.indexByte]
  by_cases h : b = c
  ·subst h
   rw [if_pos (by simp), cutb_yes b b l rfl]; rfl
  ·rw [if_neg (by simpa using h), idx_cutQ c l, if_neg (by simp), cutb_no c b l (fun e => h (UInt8.toNat_inj.1 e)), List.length_cons]; first | done | omega | simp
theorem parseB_cases (T : ByteArray) :
  ((trim (cutb 59 (us T)).1).any barb = true ∧ parseB (us T) (trim (cutb 59 (us T)).1) = (adr0, 50)) ∨
  ((trim (cutb 59 (us T)).1).any barb = false ∧ parseB (us T) (trim (cutb 59 (us T)).1) = parseA2 [] (trim (cutb 59 (us T)).1) ((us T).drop (cutb 59 (us T)).1.length)) := by
 unfold parseB
 cases h : (trim (cutb 59 (us T)).1).any barb
 ·exact .inr ⟨rfl, by rw [if_neg (by decide)]⟩
 ·exact .inl ⟨rfl, by rw [if_pos rfl]⟩
theorem parseN_cases (d : Option (List UInt8)) (c : List UInt8 × List UInt8 × Bool) :
  ((optB d).2 = false ∧ parseN d c = (adr0, 50)) ∨ ((optB d).2 = true ∧ 64 < (optB d).1.length ∧ parseN d c = (adr0, 50)) ∨ ((optB d).2 = true ∧ ¬ 64 < (optB d).1.length ∧ c.2.2 = false ∧ parseN d c = (adr0, 50)) ∨
  ((optB d).2 = true ∧ ¬ 64 < (optB d).1.length ∧ c.2.2 = true ∧ parseN d c = parseA2 (optB d).1 c.1 c.2.1) := by
 cases d with
 | none => exact .inl ⟨rfl, rfl⟩
 | some d =>
  refine .inr ?_
  unfold parseN optB
  dsimp only
  by_cases h : 64 < d.length
  ·exact .inl ⟨rfl, h, if_pos (.inl h)⟩
  ·refine .inr ?_
   cases hc : c.2.2
   ·exact .inl ⟨rfl, h, rfl, if_pos (.inr rfl)⟩
   ·exact .inr ⟨rfl, h, rfl, if_neg (by rintro (x | x); exact h x; cases x)⟩
theorem endA_cases (d : List UInt8) (u : Uri × Int) (h : List UInt8) (f : List Prm × Int) :
  (u.2 ≠ 0 ∧ endA d u h f = (adr0, u.2)) ∨ (u.2 = 0 ∧ trim h ≠ [] ∧ endA d u h f = (adr0, 50)) ∨ (u.2 = 0 ∧ trim h = [] ∧ f.2 ≠ 0 ∧ endA d u h f = (adr0, f.2)) ∨ (u.2 = 0 ∧ trim h = [] ∧ f.2 = 0 ∧ endA d u h f = (⟨d, u.1, f.1⟩, 0)) := by
 unfold endA
 by_cases h1 : u.2 = 0
 ·refine .inr ?_
  rw [if_neg (fun x => x h1)]
  by_cases h2 : trim h = []
  ·refine .inr ?_
   rw [if_neg (fun x => x h2)]
   by_cases h3 : f.2 = 0
   ·exact .inr ⟨h1, h2, h3, if_neg (fun x => x h3)⟩
   ·exact .inl ⟨h1, h2, h3, if_pos h3⟩
  ·exact .inl ⟨h1, h2, if_pos h2⟩
 ·exact .inl ⟨h1, if_pos h1⟩
set_option maxHeartbeats 12800000 in
theorem parseA_c (s : ByteArray) (hs : s.size ≤ 4294967280) (w : World) (hm : Ml w) :
  Calls Tryz.prog 18 #[.string s] w (AdrPost (parseA (us s)) w) := by
 have HM := κ hm
 clear hm
 have HTR := κ (fun wx => trim_c s (by omega) wx)
 have htl := trim_le (us s)
 rw [length_us] at htl
 have hpa : parseA (us s) = parseA1 (trim (us s)) := rfl
 obtain ⟨T, hT⟩ : ∃ T, T = bs (trim (us s)) := ⟨_, rfl⟩
 have uT : trim (us s) = us T := by rw [hT, us_bs]
 have sT : T.size ≤ 4294967280 := by rw [hT, size_bs]; omega
 rw [← hT] at HTR
 rw [hpa, uT]
 clear hT uT hpa htl hs
 have HAN := κ (fun wx => angle_c T sT wx)
 have hal := angS_lt (us T)
 rw [length_us] at hal
 have hp1 : parseA1 (us T) = if 0 ≤ angS (us T) then parseN (displayS ((us T).take (angS (us T)).toNat)) (cutb 62 ((us T).drop ((angS (us T)).toNat + 1))) else parseB (us T) (trim (cutb 59 (us T)).1) := rfl
 obtain ⟨R, hR⟩ : ∃ R, R = parseA1 (us T) := ⟨_, rfl⟩
 rw [← hR] at hp1 ⊢
 clear hR
 obtain ⟨at_, hat⟩ : ∃ x, x = angS (us T) := ⟨_, rfl⟩
 rw [← hat] at HAN hal hp1
 clear hat
 have hZ : Below w.heap.size w ((w.alloc (.cells #[.string ⟨#[]⟩, .string ⟨#[]⟩, .string ⟨#[]⟩, .string ⟨#[]⟩, .int .i64 0, (.slice none 0 0), (.slice none 0 0), (.slice none 0 0)] 26)).alloc (.cells #[.string ⟨#[]⟩, .string ⟨#[]⟩, .string ⟨#[]⟩, .string ⟨#[]⟩, .int .i64 0, (.slice none 0 0), (.slice none 0 0), (.slice none 0 0)] 26)) := ((Below.refl _ _).alloc (ρ _) _).alloc (by rw [World.size_alloc]; omega) _
 have bmR : Blk ((w.alloc (.cells #[.string ⟨#[]⟩, .string ⟨#[]⟩, .string ⟨#[]⟩, .string ⟨#[]⟩, .int .i64 0, (.slice none 0 0), (.slice none 0 0), (.slice none 0 0)] 26)).alloc (.cells #[.string ⟨#[]⟩, .string ⟨#[]⟩, .string ⟨#[]⟩, .string ⟨#[]⟩, .int .i64 0, (.slice none 0 0), (.slice none 0 0), (.slice none 0 0)] 26)) w.heap.size 26 #[.string ⟨#[]⟩, .string ⟨#[]⟩, .string ⟨#[]⟩, .string ⟨#[]⟩, .int .i64 0, (.slice none 0 0), (.slice none 0 0), (.slice none 0 0)] := (Blk.new w 26 #[.string ⟨#[]⟩, .string ⟨#[]⟩, .string ⟨#[]⟩, .string ⟨#[]⟩, .int .i64 0, (.slice none 0 0), (.slice none 0 0), (.slice none 0 0)]).alloc _
 have bmU : Blk ((w.alloc (.cells #[.string ⟨#[]⟩, .string ⟨#[]⟩, .string ⟨#[]⟩, .string ⟨#[]⟩, .int .i64 0, (.slice none 0 0), (.slice none 0 0), (.slice none 0 0)] 26)).alloc (.cells #[.string ⟨#[]⟩, .string ⟨#[]⟩, .string ⟨#[]⟩, .string ⟨#[]⟩, .int .i64 0, (.slice none 0 0), (.slice none 0 0), (.slice none 0 0)] 26)) (w.heap.size + 1) 26 #[.string ⟨#[]⟩, .string ⟨#[]⟩, .string ⟨#[]⟩, .string ⟨#[]⟩, .int .i64 0, (.slice none 0 0), (.slice none 0 0), (.slice none 0 0)] := by
  have := Blk.new (w.alloc (.cells #[.string ⟨#[]⟩, .string ⟨#[]⟩, .string ⟨#[]⟩, .string ⟨#[]⟩, .int .i64 0, (.slice none 0 0), (.slice none 0 0), (.slice none 0 0)] 26)) 26 #[.string ⟨#[]⟩, .string ⟨#[]⟩, .string ⟨#[]⟩, .string ⟨#[]⟩, .int .i64 0, (.slice none 0 0), (.slice none 0 0), (.slice none 0 0)]
  rwa [World.size_alloc] at this
 obtain ⟨w0, hw0⟩ : ∃ w0, w0 = (w.alloc (.cells #[.string ⟨#[]⟩, .string ⟨#[]⟩, .string ⟨#[]⟩, .string ⟨#[]⟩, .int .i64 0, (.slice none 0 0), (.slice none 0 0), (.slice none 0 0)] 26)).alloc (.cells #[.string ⟨#[]⟩, .string ⟨#[]⟩, .string ⟨#[]⟩, .string ⟨#[]⟩, .int .i64 0, (.slice none 0 0), (.slice none 0 0), (.slice none 0 0)] 26) := ⟨_, rfl⟩
 rw [← hw0] at hZ bmR bmU
 have HW0 := κ hw0
 clear hw0
 obtain ⟨r0, r1, r2, r3, r4, r5, r6, r7, g0, g1, g2, g3, g4, g5, g6, g7, zR⟩ := blk_h8 bmR
 obtain ⟨m0, m1, m2, m3, m4, m5, m6, m7, f0, f1, f2, f3, f4, f5, f6, f7, zU⟩ := blk_h8 bmU
 by_cases h0 : 0 ≤ at_
 case' neg =>
  have a0 : at_ < 0 := by omega
  rw [if_neg h0] at hp1
  clear hal h0
  have HCT := κ (fun wx hx => cut_c T (by omega) 59 wx hx)
  have hcl := cutb_le 59 (us T)
  rw [length_us] at hcl
  have hpc := parseB_cases T
  rw [← hp1] at hpc
  have hix := idx_cutQ 59 (us T)
  have HIB := κ (fun wx => idxB_c (T ++ ⟨#[59]⟩) 59 wx)
  rw [us_append, show us (⟨#[59]⟩ : ByteArray) = [59] from rfl, hix, show (((59 : UInt8).toNat : Nat) : Int) = 59 from rfl] at HIB
  clear hp1 hix
  have htw := trim_le (cutb 59 (us T)).1
  obtain ⟨q, hq⟩ : ∃ q, q = cutb 59 (us T) := ⟨_, rfl⟩
  rw [← hq] at HCT hcl hpc HIB htw
  clear hq
  obtain ⟨c1, c2, c3⟩ := q
  dsimp only at HCT hcl hpc HIB htw
  have HTW := κ (fun wx => trim_c (bs c1) (by rw [size_bs]; omega) wx)
  rw [us_bs] at HTW
  obtain ⟨wh, hwh⟩ : ∃ x, x = trim c1 := ⟨_, rfl⟩
  rw [← hwh] at HTW hpc htw
  clear hwh
  have HCA := κ (fun wx => containsAnyQ_c (bs wh) (by rw [size_bs]; omega) wx)
  rw [us_bs] at HCA
  obtain ⟨WH, hWH⟩ : ∃ x, x = bs wh := ⟨_, rfl⟩
  rw [← hWH] at HTW HCA
  have HWHu := κ (show us WH = wh by rw [hWH, us_bs])
  have hWHl : WH.size ≤ 4294967280 := by rw [hWH, size_bs]; omega
  obtain ⟨K, hK⟩ : ∃ K, K = c1.length := ⟨_, rfl⟩
  rw [← hK] at HIB hpc hcl
  have hKT : K ≤ T.size := by omega
  have hmn : min (T.size : Int) (K : Int) = (K : Int) := by omega
  have k0 : (0 : Int) ≤ (K : Int) := by omega
  have k1 : (K : Int) ≤ (T.size : Int) := by omega
  clear hWH hK htw hcl
  rcases hpc with ⟨hb, hR⟩ | ⟨hb, hR⟩
  ·rw [hb] at HCA
   have HR := κ hR
   clear hb hR
   go_enter Tryz.func18, Tryz.ntmps18
   go_wp2_with (first | (go_at_call 50; ((with_reducible refine (HTR.out _).mono ?_); rintro e wt ⟨rfl, rfl⟩)) | (go_at_call 56; (try rw [← HW0.out]); refine (HAN.out _).mono ?_; rintro e wt ⟨rfl, rfl⟩) | (go_at_call 47; ((with_reducible refine (HCT.out _ (HM.out.below hZ)).mono ?_); rintro e w1 ⟨rfl, hD⟩); replace hZ := hZ.trans (hD.below (B := w.heap.size)); replace bmR := bmR.call (hD.below); replace bmU := bmU.call (hD.below); clear r0 r1 r2 r3 r4 r5 r6 r7 g0 g1 g2 g3 g4 g5 g6 g7 zR m0 m1 m2 m3 m4 m5 m6 m7 f0 f1 f2 f3 f4 f5 f6 f7 zU; obtain ⟨r0, r1, r2, r3, r4, r5, r6, r7, g0, g1, g2, g3, g4, g5, g6, g7, zR⟩ := blk_h8 bmR; obtain ⟨m0, m1, m2, m3, m4, m5, m6, m7, f0, f1, f2, f3, f4, f5, f6, f7, zU⟩ := blk_h8 bmU) | (go_at_call 50; ((with_reducible refine (HTW.out _).mono ?_); rintro e wt ⟨rfl, rfl⟩)) | (go_at_call 57; ((with_reducible refine (HCA.out _).mono ?_); rintro e w2 ⟨rfl, hC2⟩); replace hZ := hZ.trans (hC2.mono hZ.size); replace bmR := bmR.call hC2; replace bmU := bmU.call hC2; clear r0 r1 r2 r3 r4 r5 r6 r7 g0 g1 g2 g3 g4 g5 g6 g7 zR m0 m1 m2 m3 m4 m5 m6 m7 f0 f1 f2 f3 f4 f5 f6 f7 zU; obtain ⟨r0, r1, r2, r3, r4, r5, r6, r7, g0, g1, g2, g3, g4, g5, g6, g7, zR⟩ := blk_h8 bmR; obtain ⟨m0, m1, m2, m3, m4, m5, m6, m7, f0, f1, f2, f3, f4, f5, f6, f7, zU⟩ := blk_h8 bmU))
   have HZE := hZ
   refine bodyPost_ret (v := .tuple #[.agg #[.string ⟨#[]⟩, .string ⟨#[]⟩, .string ⟨#[]⟩, .string ⟨#[]⟩, .int .i64 0, (.slice none 0 0), (.slice none 0 0), (.slice none 0 0)], .int .i64 50]) (by simp [results, Tryz.results18, go_sem, r0, r1, r2, r3, r4, r5, r6, r7, zR]) rfl ?_
   exact adrErr HR.out ((((((((HZE.setCell (ρ _) _).setCell (ρ _) _).setCell (ρ _) _).setCell (ρ _) _).setCell (ρ _) _).setCell (ρ _) _).setCell (ρ _) _).setCell (ρ _) _)
  rw [hb] at HCA
  clear hb
  obtain ⟨BH, hBH⟩ : ∃ x, x = T.extract K T.size := ⟨_, rfl⟩
  have HBHu := κ (show us BH = (us T).drop K by rw [hBH, us_tail])
  have hBHl : BH.size ≤ 4294967280 := by rw [hBH, size_extract _ _ _ (ρ _)]; omega
  have HBHd := κ hBH
  clear hBH
  have HRt := κ hR
  clear hR
  go_enter Tryz.func18, Tryz.ntmps18
  go_upto_region 18 with (first | (go_at_call 50; ((with_reducible refine (HTR.out _).mono ?_); rintro e wt ⟨rfl, rfl⟩)) | (go_at_call 56; (try rw [← HW0.out]); refine (HAN.out _).mono ?_; rintro e wt ⟨rfl, rfl⟩) | (go_at_call 47; ((with_reducible refine (HCT.out _ (HM.out.below hZ)).mono ?_); rintro e w1 ⟨rfl, hD⟩); replace hZ := hZ.trans (hD.below (B := w.heap.size)); replace bmR := bmR.call (hD.below); replace bmU := bmU.call (hD.below); clear r0 r1 r2 r3 r4 r5 r6 r7 g0 g1 g2 g3 g4 g5 g6 g7 zR m0 m1 m2 m3 m4 m5 m6 m7 f0 f1 f2 f3 f4 f5 f6 f7 zU; obtain ⟨r0, r1, r2, r3, r4, r5, r6, r7, g0, g1, g2, g3, g4, g5, g6, g7, zR⟩ := blk_h8 bmR; obtain ⟨m0, m1, m2, m3, m4, m5, m6, m7, f0, f1, f2, f3, f4, f5, f6, f7, zU⟩ := blk_h8 bmU) | (go_at_call 50; ((with_reducible refine (HTW.out _).mono ?_); rintro e wt ⟨rfl, rfl⟩)) | (go_at_call 57; ((with_reducible refine (HCA.out _).mono ?_); rintro e w2 ⟨rfl, hC2⟩); replace hZ := hZ.trans (hC2.mono hZ.size); replace bmR := bmR.call hC2; replace bmU := bmU.call hC2; clear r0 r1 r2 r3 r4 r5 r6 r7 g0 g1 g2 g3 g4 g5 g6 g7 zR m0 m1 m2 m3 m4 m5 m6 m7 f0 f1 f2 f3 f4 f5 f6 f7 zU; obtain ⟨r0, r1, r2, r3, r4, r5, r6, r7, g0, g1, g2, g3, g4, g5, g6, g7, zR⟩ := blk_h8 bmR; obtain ⟨m0, m1, m2, m3, m4, m5, m6, m7, f0, f1, f2, f3, f4, f5, f6, f7, zU⟩ := blk_h8 bmU) | (go_at_call 58; ((with_reducible refine (HIB.out _).mono ?_); rintro e wt ⟨rfl, rfl⟩)))
  rw [← HBHd.out]
  obtain ⟨DD, hDDe⟩ : ∃ x : ByteArray, x = ⟨#[]⟩ := ⟨_, rfl⟩
  obtain ⟨dd, hdde⟩ : ∃ x : List UInt8, x = [] := ⟨_, rfl⟩
  obtain ⟨W1, hW1⟩ : ∃ x, x = wh := ⟨_, rfl⟩
  obtain ⟨B1, hB1⟩ : ∃ x, x = (us T).drop K := ⟨_, rfl⟩
  have HDV := κ (show sv dd = .string DD by rw [hDDe, hdde]; rfl)
  have hR : R = parseA2 dd W1 B1 := by rw [hdde, hW1, hB1]; exact HRt.out
  replace HWHu := κ (show us WH = W1 by rw [hW1]; exact HWHu.out)
  replace HBHu := κ (show us BH = B1 by rw [hB1]; exact HBHu.out)
  replace bmU := (fun {wx : World} (h : Blk wx (w.heap.size + 1) 26 #[.string ⟨#[]⟩, .string ⟨#[]⟩, .string ⟨#[]⟩, .string ⟨#[]⟩, .int .i64 0, (.slice none 0 0), (.slice none 0 0), (.slice none 0 0)]) => (show Blk wx (w.heap.size + 1) 26 #[.string DD, .string ⟨#[]⟩, .string ⟨#[]⟩, .string ⟨#[]⟩, .int .i64 0, (.slice none 0 0), (.slice none 0 0), (.slice none 0 0)] by rw [hDDe]; exact h)) bmU
  clear r0 r1 r2 r3 r4 r5 r6 r7 g0 g1 g2 g3 g4 g5 g6 g7 zR m0 m1 m2 m3 m4 m5 m6 m7 f0 f1 f2 f3 f4 f5 f6 f7 zU
  obtain ⟨r0, r1, r2, r3, r4, r5, r6, r7, g0, g1, g2, g3, g4, g5, g6, g7, zR⟩ := blk_h8 bmR
  obtain ⟨m0, m1, m2, m3, m4, m5, m6, m7, f0, f1, f2, f3, f4, f5, f6, f7, zU⟩ := blk_h8 bmU
  clear hDDe hdde hW1 hB1 HRt
 case' pos =>
  rw [if_pos h0] at hp1
  obtain ⟨k, rfl⟩ : ∃ k : Nat, at_ = (k : Int) := ⟨at_.toNat, by omega⟩
  have hk : k < T.size := by omega
  rw [show ((k : Int)).toNat = k by omega] at hp1
  clear hal h0
  have HDS := κ (fun wx => display_c (T.extract 0 k) (by rw [size_extract _ _ _ (by omega)]; omega) wx)
  have hex : us (T.extract 0 k) = (us T).take k := by rw [us_extract]; rfl
  rw [hex] at HDS
  have HCT := κ (fun wx hx => cut_c (T.extract (k + 1) T.size) (by rw [size_extract _ _ _ (ρ _)]; omega) 62 wx hx)
  rw [us_tail] at HCT
  have hcl := cutb_le 62 ((us T).drop (k + 1))
  rw [List.length_drop, length_us] at hcl
  have hpc := parseN_cases (displayS ((us T).take k)) (cutb 62 ((us T).drop (k + 1)))
  rw [← hp1] at hpc
  obtain ⟨q, hq⟩ : ∃ q, q = cutb 62 ((us T).drop (k + 1)) := ⟨_, rfl⟩
  obtain ⟨o, ho⟩ : ∃ q, q = optB (displayS ((us T).take k)) := ⟨_, rfl⟩
  rw [← hq] at HCT hcl hpc
  rw [← ho] at HDS hpc
  clear hq ho hex hp1
  obtain ⟨c1, c2, c3⟩ := q
  obtain ⟨dd, dok⟩ := o
  dsimp only at HCT hcl hpc HDS
  obtain ⟨DD, hDD⟩ : ∃ x, x = bs dd := ⟨_, rfl⟩
  rw [← hDD] at HDS
  have HDV := κ (show sv dd = .string DD by rw [hDD]; rfl)
  have hdl : dd.length = DD.size := by rw [hDD, size_bs]
  rw [hdl] at hpc
  obtain ⟨WH, hWH⟩ : ∃ x, x = bs c1 := ⟨_, rfl⟩
  obtain ⟨BH, hBH⟩ : ∃ x, x = bs c2 := ⟨_, rfl⟩
  rw [← hWH, ← hBH] at HCT
  have HWHu := κ (show us WH = c1 by rw [hWH, us_bs])
  have HBHu := κ (show us BH = c2 by rw [hBH, us_bs])
  have hWHl : WH.size ≤ 4294967280 := by rw [hWH, size_bs]; omega
  have hBHl : BH.size ≤ 4294967280 := by rw [hBH, size_bs]; omega
  have k0 : (0 : Int) ≤ (k : Int) := by omega
  have k1 : (k : Int) ≤ (T.size : Int) := by omega
  have k2 : (k : Int) < (T.size : Int) := by omega
  have k3 : ((k : Int) + 1).toNat = k + 1 := by omega
  have k4 : ¬ ((k : Int) < 0) := by omega
  clear hDD hdl hWH hBH hcl
  rcases hpc with ⟨rfl, hR⟩ | ⟨rfl, h64, hR⟩ | ⟨rfl, h64, rfl, hR⟩ | ⟨rfl, h64, rfl, hR⟩
  ·have HR := κ hR
   clear hR
   go_enter Tryz.func18, Tryz.ntmps18
   go_wp2_with (first | (go_at_call 50; ((with_reducible refine (HTR.out _).mono ?_); rintro e wt ⟨rfl, rfl⟩)) | (go_at_call 56; (try rw [← HW0.out]); refine (HAN.out _).mono ?_; rintro e wt ⟨rfl, rfl⟩) | (go_at_call 59; ((with_reducible refine (HDS.out _).mono ?_); rintro e w1 ⟨rfl, hC1⟩); replace hZ := hZ.trans (hC1.mono hZ.size); replace bmR := bmR.call hC1; replace bmU := bmU.call hC1; clear r0 r1 r2 r3 r4 r5 r6 r7 g0 g1 g2 g3 g4 g5 g6 g7 zR m0 m1 m2 m3 m4 m5 m6 m7 f0 f1 f2 f3 f4 f5 f6 f7 zU; obtain ⟨r0, r1, r2, r3, r4, r5, r6, r7, g0, g1, g2, g3, g4, g5, g6, g7, zR⟩ := blk_h8 bmR; obtain ⟨m0, m1, m2, m3, m4, m5, m6, m7, f0, f1, f2, f3, f4, f5, f6, f7, zU⟩ := blk_h8 bmU; have hZ := hZ.setCell (p := ⟨w.heap.size + 1, 0, none⟩) (Nat.le_succ _) (.string DD); have bmR := bmR.far (p := ⟨w.heap.size + 1, 0, none⟩) (Nat.ne_of_lt (Nat.lt_succ_self _)) (.string DD); have bmU : Blk _ (w.heap.size + 1) 26 #[.string DD, .string ⟨#[]⟩, .string ⟨#[]⟩, .string ⟨#[]⟩, .int .i64 0, (.slice none 0 0), (.slice none 0 0), (.slice none 0 0)] := bmU.set_ 0 (.string DD); have HZE := hZ))
   refine bodyPost_ret (v := .tuple #[.agg #[.string ⟨#[]⟩, .string ⟨#[]⟩, .string ⟨#[]⟩, .string ⟨#[]⟩, .int .i64 0, (.slice none 0 0), (.slice none 0 0), (.slice none 0 0)], .int .i64 50]) (by simp [results, Tryz.results18, go_sem, r0, r1, r2, r3, r4, r5, r6, r7, zR]) rfl ?_
   exact adrErr HR.out ((((((((HZE.setCell (ρ _) _).setCell (ρ _) _).setCell (ρ _) _).setCell (ρ _) _).setCell (ρ _) _).setCell (ρ _) _).setCell (ρ _) _).setCell (ρ _) _)
  ·have HR := κ hR
   clear hR
   go_enter Tryz.func18, Tryz.ntmps18
   go_wp2_with (first | (go_at_call 50; ((with_reducible refine (HTR.out _).mono ?_); rintro e wt ⟨rfl, rfl⟩)) | (go_at_call 56; (try rw [← HW0.out]); refine (HAN.out _).mono ?_; rintro e wt ⟨rfl, rfl⟩) | (go_at_call 59; ((with_reducible refine (HDS.out _).mono ?_); rintro e w1 ⟨rfl, hC1⟩); replace hZ := hZ.trans (hC1.mono hZ.size); replace bmR := bmR.call hC1; replace bmU := bmU.call hC1; clear r0 r1 r2 r3 r4 r5 r6 r7 g0 g1 g2 g3 g4 g5 g6 g7 zR m0 m1 m2 m3 m4 m5 m6 m7 f0 f1 f2 f3 f4 f5 f6 f7 zU; obtain ⟨r0, r1, r2, r3, r4, r5, r6, r7, g0, g1, g2, g3, g4, g5, g6, g7, zR⟩ := blk_h8 bmR; obtain ⟨m0, m1, m2, m3, m4, m5, m6, m7, f0, f1, f2, f3, f4, f5, f6, f7, zU⟩ := blk_h8 bmU; have hZ := hZ.setCell (p := ⟨w.heap.size + 1, 0, none⟩) (Nat.le_succ _) (.string DD); have bmR := bmR.far (p := ⟨w.heap.size + 1, 0, none⟩) (Nat.ne_of_lt (Nat.lt_succ_self _)) (.string DD); have bmU : Blk _ (w.heap.size + 1) 26 #[.string DD, .string ⟨#[]⟩, .string ⟨#[]⟩, .string ⟨#[]⟩, .int .i64 0, (.slice none 0 0), (.slice none 0 0), (.slice none 0 0)] := bmU.set_ 0 (.string DD); have HZE := hZ))
   refine bodyPost_ret (v := .tuple #[.agg #[.string ⟨#[]⟩, .string ⟨#[]⟩, .string ⟨#[]⟩, .string ⟨#[]⟩, .int .i64 0, (.slice none 0 0), (.slice none 0 0), (.slice none 0 0)], .int .i64 50]) (by simp [results, Tryz.results18, go_sem, r0, r1, r2, r3, r4, r5, r6, r7, zR]) rfl ?_
   exact adrErr HR.out ((((((((HZE.setCell (ρ _) _).setCell (ρ _) _).setCell (ρ _) _).setCell (ρ _) _).setCell (ρ _) _).setCell (ρ _) _).setCell (ρ _) _).setCell (ρ _) _)
  ·have HR := κ hR
   clear hR
   go_enter Tryz.func18, Tryz.ntmps18
   go_wp2_with (first | (go_at_call 50; ((with_reducible refine (HTR.out _).mono ?_); rintro e wt ⟨rfl, rfl⟩)) | (go_at_call 56; (try rw [← HW0.out]); refine (HAN.out _).mono ?_; rintro e wt ⟨rfl, rfl⟩) | (go_at_call 59; ((with_reducible refine (HDS.out _).mono ?_); rintro e w1 ⟨rfl, hC1⟩); replace hZ := hZ.trans (hC1.mono hZ.size); replace bmR := bmR.call hC1; replace bmU := bmU.call hC1; clear r0 r1 r2 r3 r4 r5 r6 r7 g0 g1 g2 g3 g4 g5 g6 g7 zR m0 m1 m2 m3 m4 m5 m6 m7 f0 f1 f2 f3 f4 f5 f6 f7 zU; obtain ⟨r0, r1, r2, r3, r4, r5, r6, r7, g0, g1, g2, g3, g4, g5, g6, g7, zR⟩ := blk_h8 bmR; obtain ⟨m0, m1, m2, m3, m4, m5, m6, m7, f0, f1, f2, f3, f4, f5, f6, f7, zU⟩ := blk_h8 bmU; have hZ := hZ.setCell (p := ⟨w.heap.size + 1, 0, none⟩) (Nat.le_succ _) (.string DD); have bmR := bmR.far (p := ⟨w.heap.size + 1, 0, none⟩) (Nat.ne_of_lt (Nat.lt_succ_self _)) (.string DD); have bmU : Blk _ (w.heap.size + 1) 26 #[.string DD, .string ⟨#[]⟩, .string ⟨#[]⟩, .string ⟨#[]⟩, .int .i64 0, (.slice none 0 0), (.slice none 0 0), (.slice none 0 0)] := bmU.set_ 0 (.string DD); have HZE := hZ) | (go_at_call 47; ((with_reducible refine (HCT.out _ (HM.out.below hZ)).mono ?_); rintro e w2 ⟨rfl, hD⟩); replace hZ := hZ.trans (hD.below (B := w.heap.size)); replace bmR := bmR.call (hD.below); replace bmU := bmU.call (hD.below); clear r0 r1 r2 r3 r4 r5 r6 r7 g0 g1 g2 g3 g4 g5 g6 g7 zR m0 m1 m2 m3 m4 m5 m6 m7 f0 f1 f2 f3 f4 f5 f6 f7 zU; obtain ⟨r0, r1, r2, r3, r4, r5, r6, r7, g0, g1, g2, g3, g4, g5, g6, g7, zR⟩ := blk_h8 bmR; obtain ⟨m0, m1, m2, m3, m4, m5, m6, m7, f0, f1, f2, f3, f4, f5, f6, f7, zU⟩ := blk_h8 bmU))
   have HZE := hZ
   refine bodyPost_ret (v := .tuple #[.agg #[.string ⟨#[]⟩, .string ⟨#[]⟩, .string ⟨#[]⟩, .string ⟨#[]⟩, .int .i64 0, (.slice none 0 0), (.slice none 0 0), (.slice none 0 0)], .int .i64 50]) (by simp [results, Tryz.results18, go_sem, r0, r1, r2, r3, r4, r5, r6, r7, zR]) rfl ?_
   exact adrErr HR.out ((((((((HZE.setCell (ρ _) _).setCell (ρ _) _).setCell (ρ _) _).setCell (ρ _) _).setCell (ρ _) _).setCell (ρ _) _).setCell (ρ _) _).setCell (ρ _) _)
  have HRt := κ hR
  clear hR
  go_enter Tryz.func18, Tryz.ntmps18
  go_upto_region 18 with (first | (go_at_call 50; ((with_reducible refine (HTR.out _).mono ?_); rintro e wt ⟨rfl, rfl⟩)) | (go_at_call 56; (try rw [← HW0.out]); refine (HAN.out _).mono ?_; rintro e wt ⟨rfl, rfl⟩) | (go_at_call 59; ((with_reducible refine (HDS.out _).mono ?_); rintro e w1 ⟨rfl, hC1⟩); replace hZ := hZ.trans (hC1.mono hZ.size); replace bmR := bmR.call hC1; replace bmU := bmU.call hC1; clear r0 r1 r2 r3 r4 r5 r6 r7 g0 g1 g2 g3 g4 g5 g6 g7 zR m0 m1 m2 m3 m4 m5 m6 m7 f0 f1 f2 f3 f4 f5 f6 f7 zU; obtain ⟨r0, r1, r2, r3, r4, r5, r6, r7, g0, g1, g2, g3, g4, g5, g6, g7, zR⟩ := blk_h8 bmR; obtain ⟨m0, m1, m2, m3, m4, m5, m6, m7, f0, f1, f2, f3, f4, f5, f6, f7, zU⟩ := blk_h8 bmU; have hZ := hZ.setCell (p := ⟨w.heap.size + 1, 0, none⟩) (Nat.le_succ _) (.string DD); have bmR := bmR.far (p := ⟨w.heap.size + 1, 0, none⟩) (Nat.ne_of_lt (Nat.lt_succ_self _)) (.string DD); have bmU : Blk _ (w.heap.size + 1) 26 #[.string DD, .string ⟨#[]⟩, .string ⟨#[]⟩, .string ⟨#[]⟩, .int .i64 0, (.slice none 0 0), (.slice none 0 0), (.slice none 0 0)] := bmU.set_ 0 (.string DD); have HZE := hZ) | (go_at_call 47; ((with_reducible refine (HCT.out _ (HM.out.below hZ)).mono ?_); rintro e w2 ⟨rfl, hD⟩); replace hZ := hZ.trans (hD.below (B := w.heap.size)); replace bmR := bmR.call (hD.below); replace bmU := bmU.call (hD.below); clear r0 r1 r2 r3 r4 r5 r6 r7 g0 g1 g2 g3 g4 g5 g6 g7 zR m0 m1 m2 m3 m4 m5 m6 m7 f0 f1 f2 f3 f4 f5 f6 f7 zU; obtain ⟨r0, r1, r2, r3, r4, r5, r6, r7, g0, g1, g2, g3, g4, g5, g6, g7, zR⟩ := blk_h8 bmR; obtain ⟨m0, m1, m2, m3, m4, m5, m6, m7, f0, f1, f2, f3, f4, f5, f6, f7, zU⟩ := blk_h8 bmU))
  obtain ⟨W1, hW1⟩ : ∃ x, x = c1 := ⟨_, rfl⟩
  obtain ⟨B1, hB1⟩ : ∃ x, x = c2 := ⟨_, rfl⟩
  have hR : R = parseA2 dd W1 B1 := by rw [hW1, hB1]; exact HRt.out
  replace HWHu := κ (show us WH = W1 by rw [hW1]; exact HWHu.out)
  replace HBHu := κ (show us BH = B1 by rw [hB1]; exact HBHu.out)
  clear hW1 hB1 HRt h64
 all_goals
  have HPU := κ (fun wx hx => parseU_c WH hWHl wx hx)
  have HPA := κ (fun wx => parts_c BH (by have := hBHl; omega) 59 wx)
  have hpb := parts_bd 59 (us BH)
  have hpn := parts_ne 59 (us BH)
  have huo := parseU_ok (us WH)
  have hsz : (us BH).length ≤ 4294967280 := by rw [length_us]; exact hBHl
  rw [HWHu.out] at HPU huo
  rw [HBHu.out] at HPA hpb hpn hsz
  unfold parseA2 at hR
  obtain ⟨h, tl, hpt⟩ : ∃ h tl, parts B1 59 = h :: tl := ⟨_, _, (List.cons_head_tail hpn).symm⟩
  rw [hpt] at HPA hpb hR
  have hR := hR.trans (show _ = endA dd (parseU W1) h (fieldsS tl) from rfl)
  have hcs := endA_cases dd (parseU W1) h (fieldsS tl)
  rw [← hR] at hcs
  have hhl := hpb h (List.mem_cons_self ..)
  have HTH := κ (fun wx => trim_c (bs h) (by rw [size_bs]; omega) wx)
  rw [us_bs] at HTH
  rw [show (((59 : UInt8).toNat : Nat) : Int) = 59 from rfl] at HPA
  have HFI := κ (fun wx v hx hv => fields_c v tl wx hx hv (fun p hp => Nat.le_trans (hpb p (List.mem_cons_of_mem _ hp)) hsz))
  obtain ⟨TH, hTH⟩ : ∃ x, x = bs (trim h) := ⟨_, rfl⟩
  have hth : trim h = [] ↔ TH.size = 0 := by rw [hTH, size_bs, List.length_eq_zero_iff]
  rw [← hTH] at HTH
  simp only [ne_eq, hth] at hcs
  obtain ⟨PU, hPU⟩ : ∃ x, x = parseU W1 := ⟨_, rfl⟩
  obtain ⟨FI, hFI⟩ : ∃ x, x = fieldsS tl := ⟨_, rfl⟩
  rw [← hPU] at HPU hcs huo
  rw [← hFI] at HFI hcs
  unfold UriPost at HPU
  clear hPU hFI hTH hth hhl hpb hpn hsz hpt hR huo
  obtain ⟨pu, pe⟩ := PU
  obtain ⟨fi, fe⟩ := FI
  dsimp only at HPU hcs HFI
  obtain ⟨US, hUS⟩ : ∃ x, x = bs pu.scheme := ⟨_, rfl⟩
  obtain ⟨UU, hUU⟩ : ∃ x, x = bs pu.user := ⟨_, rfl⟩
  obtain ⟨UH, hUH⟩ : ∃ x, x = bs pu.host := ⟨_, rfl⟩
  unfold sv at HPU
  rw [← hUS, ← hUU, ← hUH] at HPU
  have HSV := κ (show sv pu.scheme = .string US by rw [hUS]; rfl)
  have HUV := κ (show sv pu.user = .string UU by rw [hUU]; rfl)
  have HHV := κ (show sv pu.host = .string UH by rw [hUH]; rfl)
  obtain ⟨up, hup⟩ : ∃ x, x = pu.port := ⟨_, rfl⟩
  rw [← hup] at HPU
  have HPV := κ hup.symm
  clear hUS hUU hUH hup
  rcases hcs with ⟨hw, hR⟩ | ⟨rfl, hw, hR⟩ | ⟨rfl, hw, hf, hR⟩ | ⟨rfl, hw, rfl, hR⟩
  all_goals have HR := κ hR
  all_goals try (have t7 : (pe != 0) = true := by simpa using hw)
  all_goals try (have pE := ne_empty hw; have pF := isEmpty_f hw)
  all_goals try (obtain rfl := eq_empty hw)
  all_goals try (have t7 : (fe != 0) = true := by simpa using hf)
  all_goals try clear hf
  all_goals try clear hw
  all_goals clear hR
  all_goals go_wp2_with (first | (go_at_call 60; ((with_reducible refine (HPU.out _ (HM.out.below hZ)).mono ?_); rintro e w9 ⟨u1, u2, rfl, hu1, hu2, hF1, hF2, hC9⟩); have hF1 := hF1.mono (show w.heap.size + 2 ≤ _ from bmU.lt); have hF2 := hF2.mono (show w.heap.size + 2 ≤ _ from bmU.lt); replace hZ := hZ.trans (hC9.mono hZ.size); replace bmR := bmR.call hC9; replace bmU := bmU.call hC9; clear r0 r1 r2 r3 r4 r5 r6 r7 g0 g1 g2 g3 g4 g5 g6 g7 zR m0 m1 m2 m3 m4 m5 m6 m7 f0 f1 f2 f3 f4 f5 f6 f7 zU; obtain ⟨r0, r1, r2, r3, r4, r5, r6, r7, g0, g1, g2, g3, g4, g5, g6, g7, zR⟩ := blk_h8 bmR; obtain ⟨m0, m1, m2, m3, m4, m5, m6, m7, f0, f1, f2, f3, f4, f5, f6, f7, zU⟩ := blk_h8 bmU; obtain ⟨ao1, cp1, rfl, _, _⟩ := hu1.form; obtain ⟨ao2, cp2, rfl, _, _⟩ := hu2.form; have HZ9 := κ hZ; have HUP1 := hu1; have HUP2 := hu2; have bx := Blk.new w9 24 #[.string US, .string UU, .string UH, .int .i64 up, .slice ao1 pu.ps.length cp1, .slice ao2 pu.hs.length cp2]; obtain ⟨q0, q1, q2, q3, q4, q5⟩ := blk_f6 bx; clear bx; replace hZ := hZ.setCell (p := ⟨w.heap.size + 1, 1, none⟩) (Nat.le_succ _) (.string US); replace bmR := bmR.far (p := ⟨w.heap.size + 1, 1, none⟩) (Nat.ne_of_lt (Nat.lt_succ_self _)) (.string US); replace bmU : Blk _ (w.heap.size + 1) 26 #[(.string DD), (.string US), (.string ⟨#[]⟩), (.string ⟨#[]⟩), (.int .i64 0), (.slice none 0 0), (.slice none 0 0), (.slice none 0 0)] := bmU.set_ 1 (.string US); replace HUP1 := HUP1.set hF1 (p := ⟨w.heap.size + 1, 1, none⟩) (show w.heap.size + 1 < w.heap.size + 2 by omega) (.string US); replace HUP2 := HUP2.set hF2 (p := ⟨w.heap.size + 1, 1, none⟩) (show w.heap.size + 1 < w.heap.size + 2 by omega) (.string US); replace hZ := hZ.setCell (p := ⟨w.heap.size + 1, 2, none⟩) (Nat.le_succ _) (.string UU); replace bmR := bmR.far (p := ⟨w.heap.size + 1, 2, none⟩) (Nat.ne_of_lt (Nat.lt_succ_self _)) (.string UU); replace bmU : Blk _ (w.heap.size + 1) 26 #[(.string DD), (.string US), (.string UU), (.string ⟨#[]⟩), (.int .i64 0), (.slice none 0 0), (.slice none 0 0), (.slice none 0 0)] := bmU.set_ 2 (.string UU); replace HUP1 := HUP1.set hF1 (p := ⟨w.heap.size + 1, 2, none⟩) (show w.heap.size + 1 < w.heap.size + 2 by omega) (.string UU); replace HUP2 := HUP2.set hF2 (p := ⟨w.heap.size + 1, 2, none⟩) (show w.heap.size + 1 < w.heap.size + 2 by omega) (.string UU); replace hZ := hZ.setCell (p := ⟨w.heap.size + 1, 3, none⟩) (Nat.le_succ _) (.string UH); replace bmR := bmR.far (p := ⟨w.heap.size + 1, 3, none⟩) (Nat.ne_of_lt (Nat.lt_succ_self _)) (.string UH); replace bmU : Blk _ (w.heap.size + 1) 26 #[(.string DD), (.string US), (.string UU), (.string UH), (.int .i64 0), (.slice none 0 0), (.slice none 0 0), (.slice none 0 0)] := bmU.set_ 3 (.string UH); replace HUP1 := HUP1.set hF1 (p := ⟨w.heap.size + 1, 3, none⟩) (show w.heap.size + 1 < w.heap.size + 2 by omega) (.string UH); replace HUP2 := HUP2.set hF2 (p := ⟨w.heap.size + 1, 3, none⟩) (show w.heap.size + 1 < w.heap.size + 2 by omega) (.string UH); replace hZ := hZ.setCell (p := ⟨w.heap.size + 1, 4, none⟩) (Nat.le_succ _) (.int .i64 up); replace bmR := bmR.far (p := ⟨w.heap.size + 1, 4, none⟩) (Nat.ne_of_lt (Nat.lt_succ_self _)) (.int .i64 up); replace bmU : Blk _ (w.heap.size + 1) 26 #[(.string DD), (.string US), (.string UU), (.string UH), (.int .i64 up), (.slice none 0 0), (.slice none 0 0), (.slice none 0 0)] := bmU.set_ 4 (.int .i64 up); replace HUP1 := HUP1.set hF1 (p := ⟨w.heap.size + 1, 4, none⟩) (show w.heap.size + 1 < w.heap.size + 2 by omega) (.int .i64 up); replace HUP2 := HUP2.set hF2 (p := ⟨w.heap.size + 1, 4, none⟩) (show w.heap.size + 1 < w.heap.size + 2 by omega) (.int .i64 up); replace hZ := hZ.setCell (p := ⟨w.heap.size + 1, 5, none⟩) (Nat.le_succ _) (.slice ao1 pu.ps.length cp1); replace bmR := bmR.far (p := ⟨w.heap.size + 1, 5, none⟩) (Nat.ne_of_lt (Nat.lt_succ_self _)) (.slice ao1 pu.ps.length cp1); replace bmU : Blk _ (w.heap.size + 1) 26 #[(.string DD), (.string US), (.string UU), (.string UH), (.int .i64 up), (.slice ao1 pu.ps.length cp1), (.slice none 0 0), (.slice none 0 0)] := bmU.set_ 5 (.slice ao1 pu.ps.length cp1); replace HUP1 := HUP1.set hF1 (p := ⟨w.heap.size + 1, 5, none⟩) (show w.heap.size + 1 < w.heap.size + 2 by omega) (.slice ao1 pu.ps.length cp1); replace HUP2 := HUP2.set hF2 (p := ⟨w.heap.size + 1, 5, none⟩) (show w.heap.size + 1 < w.heap.size + 2 by omega) (.slice ao1 pu.ps.length cp1); replace hZ := hZ.setCell (p := ⟨w.heap.size + 1, 6, none⟩) (Nat.le_succ _) (.slice ao2 pu.hs.length cp2); replace bmR := bmR.far (p := ⟨w.heap.size + 1, 6, none⟩) (Nat.ne_of_lt (Nat.lt_succ_self _)) (.slice ao2 pu.hs.length cp2); replace bmU : Blk _ (w.heap.size + 1) 26 #[(.string DD), (.string US), (.string UU), (.string UH), (.int .i64 up), (.slice ao1 pu.ps.length cp1), (.slice ao2 pu.hs.length cp2), (.slice none 0 0)] := bmU.set_ 6 (.slice ao2 pu.hs.length cp2); replace HUP1 := HUP1.set hF1 (p := ⟨w.heap.size + 1, 6, none⟩) (show w.heap.size + 1 < w.heap.size + 2 by omega) (.slice ao2 pu.hs.length cp2); replace HUP2 := HUP2.set hF2 (p := ⟨w.heap.size + 1, 6, none⟩) (show w.heap.size + 1 < w.heap.size + 2 by omega) (.slice ao2 pu.hs.length cp2); have hsz9 := hZ.size; replace HUP1 := κ (HUP1.below ((Below.refl _ _).alloc (ρ _) (.cells #[.string US, .string UU, .string UH, .int .i64 up, .slice ao1 pu.ps.length cp1, .slice ao2 pu.hs.length cp2] 24)) (ρ _)); replace HUP2 := κ (HUP2.below ((Below.refl _ _).alloc (ρ _) (.cells #[.string US, .string UU, .string UH, .int .i64 up, .slice ao1 pu.ps.length cp1, .slice ao2 pu.hs.length cp2] 24)) (ρ _)); replace hZ := hZ.alloc hsz9 (.cells #[.string US, .string UU, .string UH, .int .i64 up, .slice ao1 pu.ps.length cp1, .slice ao2 pu.hs.length cp2] 24); replace bmR := bmR.alloc (.cells #[.string US, .string UU, .string UH, .int .i64 up, .slice ao1 pu.ps.length cp1, .slice ao2 pu.hs.length cp2] 24); replace bmU := bmU.alloc (.cells #[.string US, .string UU, .string UH, .int .i64 up, .slice ao1 pu.ps.length cp1, .slice ao2 pu.hs.length cp2] 24); have HF1 := κ hF1; have HF2 := κ hF2; clear hu1 hu2 hF1 hF2 hsz9) | (go_at_call 61; ((with_reducible refine (HPA.out _).mono ?_); rintro e w10 ⟨v, rfl, hv, hC10⟩); replace HUP1 := κ (HUP1.out.below hC10 (ρ _)); replace HUP2 := κ (HUP2.out.below hC10 (ρ _)); replace hZ := hZ.trans (hC10.mono hZ.size); replace bmR := bmR.call hC10; replace bmU := bmU.call hC10; clear r0 r1 r2 r3 r4 r5 r6 r7 g0 g1 g2 g3 g4 g5 g6 g7 zR m0 m1 m2 m3 m4 m5 m6 m7 f0 f1 f2 f3 f4 f5 f6 f7 zU; obtain ⟨r0, r1, r2, r3, r4, r5, r6, r7, g0, g1, g2, g3, g4, g5, g6, g7, zR⟩ := blk_h8 bmR; obtain ⟨m0, m1, m2, m3, m4, m5, m6, m7, f0, f1, f2, f3, f4, f5, f6, f7, zU⟩ := blk_h8 bmU; have HZE := hZ; have HV := κ hv; obtain ⟨ao, cap, rfl, hm1, c1⟩ := hv.form; obtain ⟨b, off, rfl, hb1, hc1⟩ := c1 (by simp); have x0 := hc1 0 (by simp); rw [Nat.add_zero] at x0; have k1 : (0 : Int) < ((h :: tl).length : Int) := (by simp); clear hc1 c1 hv; unfold maxLen at hm1) | (go_at_call 50; ((with_reducible refine (HTH.out _).mono ?_); rintro e wt ⟨rfl, rfl⟩)) | (go_at_call 62; ((with_reducible refine (HFI.out _ _ (HM.out.below hZ) (by first | exact HV.out.tailB | exact HV.out.tailA (by first | assumption | omega))).mono ?_); rintro e w11 ⟨u3, rfl, hu3, hF3, hC11⟩); have hF3 := hF3.mono (show w.heap.size + 2 ≤ _ from bmU.lt); replace HUP1 := κ (HUP1.out.below hC11 (ρ _)); replace HUP2 := κ (HUP2.out.below hC11 (ρ _)); replace hZ := hZ.trans (hC11.mono hZ.size); replace bmR := bmR.call hC11; replace bmU := bmU.call hC11; clear r0 r1 r2 r3 r4 r5 r6 r7 g0 g1 g2 g3 g4 g5 g6 g7 zR m0 m1 m2 m3 m4 m5 m6 m7 f0 f1 f2 f3 f4 f5 f6 f7 zU; obtain ⟨r0, r1, r2, r3, r4, r5, r6, r7, g0, g1, g2, g3, g4, g5, g6, g7, zR⟩ := blk_h8 bmR; obtain ⟨m0, m1, m2, m3, m4, m5, m6, m7, f0, f1, f2, f3, f4, f5, f6, f7, zU⟩ := blk_h8 bmU; obtain ⟨ao3, cp3, rfl, _, _⟩ := hu3.form; have HZE := hZ.setCell (p := ⟨w.heap.size + 1, 7, none⟩) (Nat.le_succ _) (.slice ao3 fi.length cp3); have HU3 := κ (hu3.set hF3 (p := ⟨w.heap.size + 1, 7, none⟩) (show w.heap.size + 1 < w.heap.size + 2 by omega) (.slice ao3 fi.length cp3)); have HUP1 := κ (HUP1.out.set HF1.out (p := ⟨w.heap.size + 1, 7, none⟩) (show w.heap.size + 1 < w.heap.size + 2 by omega) (.slice ao3 fi.length cp3)); have HUP2 := κ (HUP2.out.set HF2.out (p := ⟨w.heap.size + 1, 7, none⟩) (show w.heap.size + 1 < w.heap.size + 2 by omega) (.slice ao3 fi.length cp3)); have HF3 := κ hF3; clear hu3 hF3))
  all_goals first | (refine bodyPost_ret (v := .tuple #[.agg #[.string ⟨#[]⟩, .string ⟨#[]⟩, .string ⟨#[]⟩, .string ⟨#[]⟩, .int .i64 0, (.slice none 0 0), (.slice none 0 0), (.slice none 0 0)], .int .i64 50]) (by simp [results, Tryz.results18, go_sem, r0, r1, r2, r3, r4, r5, r6, r7, zR]) rfl ?_; exact adrErr HR.out ((((((((HZE.setCell (ρ _) _).setCell (ρ _) _).setCell (ρ _) _).setCell (ρ _) _).setCell (ρ _) _).setCell (ρ _) _).setCell (ρ _) _).setCell (ρ _) _)) | (refine bodyPost_ret (v := .tuple #[.agg #[.string ⟨#[]⟩, .string ⟨#[]⟩, .string ⟨#[]⟩, .string ⟨#[]⟩, .int .i64 0, (.slice none 0 0), (.slice none 0 0), (.slice none 0 0)], .int .i64 fe]) (by simp [results, Tryz.results18, go_sem, r0, r1, r2, r3, r4, r5, r6, r7, zR]) rfl ?_; exact adrErr HR.out ((((((((HZE.setCell (ρ _) _).setCell (ρ _) _).setCell (ρ _) _).setCell (ρ _) _).setCell (ρ _) _).setCell (ρ _) _).setCell (ρ _) _).setCell (ρ _) _)) | (refine bodyPost_ret (v := .tuple #[.agg #[.string DD, .string US, .string UU, .string UH, .int .i64 up, .slice ao1 pu.ps.length cp1, .slice ao2 pu.hs.length cp2, .slice ao3 fi.length cp3], .int .i64 0]) (by simp [results, Tryz.results18, go_sem, r0, r1, r2, r3, r4, r5, r6, r7]) rfl ?_; exact ⟨_, _, _, by (rw [HR.out]; show _ = Ending.returned (.tuple #[.agg #[sv dd, sv pu.scheme, sv pu.user, sv pu.host, .int .i64 pu.port, _, _, _], .int .i64 0]); rw [HSV.out, HUV.out, HHV.out, HPV.out, HDV.out]), (by rw [HR.out]; exact (RPrms.set (RPrms.set (RPrms.set (RPrms.set (RPrms.set (RPrms.set (RPrms.set (RPrms.set HUP1.out HF1.out (p := ⟨w.heap.size, 0, none⟩) (show w.heap.size < w.heap.size + 2 by omega) _) HF1.out (p := ⟨w.heap.size, 1, none⟩) (show w.heap.size < w.heap.size + 2 by omega) _) HF1.out (p := ⟨w.heap.size, 2, none⟩) (show w.heap.size < w.heap.size + 2 by omega) _) HF1.out (p := ⟨w.heap.size, 3, none⟩) (show w.heap.size < w.heap.size + 2 by omega) _) HF1.out (p := ⟨w.heap.size, 4, none⟩) (show w.heap.size < w.heap.size + 2 by omega) _) HF1.out (p := ⟨w.heap.size, 5, none⟩) (show w.heap.size < w.heap.size + 2 by omega) _) HF1.out (p := ⟨w.heap.size, 6, none⟩) (show w.heap.size < w.heap.size + 2 by omega) _) HF1.out (p := ⟨w.heap.size, 7, none⟩) (show w.heap.size < w.heap.size + 2 by omega) _)), (by rw [HR.out]; exact (RPrms.set (RPrms.set (RPrms.set (RPrms.set (RPrms.set (RPrms.set (RPrms.set (RPrms.set HUP2.out HF2.out (p := ⟨w.heap.size, 0, none⟩) (show w.heap.size < w.heap.size + 2 by omega) _) HF2.out (p := ⟨w.heap.size, 1, none⟩) (show w.heap.size < w.heap.size + 2 by omega) _) HF2.out (p := ⟨w.heap.size, 2, none⟩) (show w.heap.size < w.heap.size + 2 by omega) _) HF2.out (p := ⟨w.heap.size, 3, none⟩) (show w.heap.size < w.heap.size + 2 by omega) _) HF2.out (p := ⟨w.heap.size, 4, none⟩) (show w.heap.size < w.heap.size + 2 by omega) _) HF2.out (p := ⟨w.heap.size, 5, none⟩) (show w.heap.size < w.heap.size + 2 by omega) _) HF2.out (p := ⟨w.heap.size, 6, none⟩) (show w.heap.size < w.heap.size + 2 by omega) _) HF2.out (p := ⟨w.heap.size, 7, none⟩) (show w.heap.size < w.heap.size + 2 by omega) _)), (by rw [HR.out]; exact (RPrms.set (RPrms.set (RPrms.set (RPrms.set (RPrms.set (RPrms.set (RPrms.set (RPrms.set HU3.out HF3.out (p := ⟨w.heap.size, 0, none⟩) (show w.heap.size < w.heap.size + 2 by omega) _) HF3.out (p := ⟨w.heap.size, 1, none⟩) (show w.heap.size < w.heap.size + 2 by omega) _) HF3.out (p := ⟨w.heap.size, 2, none⟩) (show w.heap.size < w.heap.size + 2 by omega) _) HF3.out (p := ⟨w.heap.size, 3, none⟩) (show w.heap.size < w.heap.size + 2 by omega) _) HF3.out (p := ⟨w.heap.size, 4, none⟩) (show w.heap.size < w.heap.size + 2 by omega) _) HF3.out (p := ⟨w.heap.size, 5, none⟩) (show w.heap.size < w.heap.size + 2 by omega) _) HF3.out (p := ⟨w.heap.size, 6, none⟩) (show w.heap.size < w.heap.size + 2 by omega) _) HF3.out (p := ⟨w.heap.size, 7, none⟩) (show w.heap.size < w.heap.size + 2 by omega) _)), HF1.out.mono (by omega), HF2.out.mono (by omega), HF3.out.mono (by omega), ((((((((HZE.setCell (ρ _) _).setCell (ρ _) _).setCell (ρ _) _).setCell (ρ _) _).setCell (ρ _) _).setCell (ρ _) _).setCell (ρ _) _).setCell (ρ _) _)⟩) | (refine bodyPost_ret (v := .tuple #[.agg #[.string ⟨#[]⟩, .string ⟨#[]⟩, .string ⟨#[]⟩, .string ⟨#[]⟩, .int .i64 0, (.slice none 0 0), (.slice none 0 0), (.slice none 0 0)], .int .i64 pe]) (by simp [results, Tryz.results18, go_sem, r0, r1, r2, r3, r4, r5, r6, r7, zR]) rfl ?_; exact adrErr HR.out (((((((((HZ9.setCell (ρ _) _).setCell (ρ _) _).setCell (ρ _) _).setCell (ρ _) _).setCell (ρ _) _).setCell (ρ _) _).setCell (ρ _) _).setCell (ρ _) _).alloc (by have := HZ9.size; simp; omega) _))
theorem tagA_c (D S U H : ByteArray) (n : Int) (u1 u2 u3 : Value) (F G P : List Prm) (w : World) (h3 : RPrms w u3 P) (hb : ∀ p ∈ P, p.name.length ≤ 4294967280) (f1 : ∃ ao c, u1 = .slice ao F.length c) (f2 : ∃ ao c, u2 = .slice ao G.length c) :
  Calls Tryz.prog 19 #[.agg #[.string D, .string S, .string U, .string H, .int .i64 n, u1, u2, u3]] w fun e w' => e = .returned (.string (bs (value P nTag).1)) ∧ Below w.heap.size w w' := by
 have HU := κ h3
 obtain ⟨ao, ac, rfl⟩ := f1
 obtain ⟨bo, bc, rfl⟩ := f2
 obtain ⟨co, cc, rfl, _, _⟩ := h3.form
 clear h3
 have HV := κ (fun wx hv => value_c (.slice co P.length cc) P ⟨#[116, 97, 103]⟩ (by decide) wx hv (fun p hp => by have := hb p hp; omega))
 rw [show us ⟨#[116, 97, 103]⟩ = nTag from rfl] at HV
 obtain ⟨q, hq⟩ : ∃ q, q = value P nTag := ⟨_, rfl⟩
 rw [← hq] at HV ⊢
 clear hq hb
 have hZ := (Below.refl w.heap.size w).alloc (ρ _) (.cells #[.string D, .string S, .string U, .string H, .int .i64 n, .slice ao F.length ac, .slice bo G.length bc, .slice co P.length cc] 26)
 go_enter Tryz.func19, Tryz.ntmps19
 go_wp2_with (go_at_call 63; refine (HV.out _ (HU.out.below hZ (ρ _))).mono ?_; rintro e w1 ⟨rfl, hC1⟩; have hZ := hZ.trans (hC1.mono hZ.size))
 go_ret
 exact ⟨rfl, hZ⟩
set_option maxHeartbeats 6400000 in
theorem same3_yes (S U H : ByteArray) (n : Int) (u1 u2 v1 v2 : Value) (F G : List Prm) (w : World) (h1 : RPrms w u1 F) (h2 : RPrms w u2 G) (h3 : RPrms w v1 F) (h4 : RPrms w v2 G) :
  Calls Tryz.prog 43 #[.agg #[.string S, .string U, .string H, .int .i64 n, u1, u2], .agg #[.string S, .string U, .string H, .int .i64 n, v1, v2]] w fun e w' => e = .returned (.bool true) ∧ Below w.heap.size w w' := by
 have H1 := κ h1
 have H2 := κ h2
 have H3 := κ h3
 have H4 := κ h4
 obtain ⟨ao, ac, rfl, _, _⟩ := h1.form
 obtain ⟨bo, bc, rfl, _, _⟩ := h2.form
 obtain ⟨co, cc, rfl, _, _⟩ := h3.form
 obtain ⟨do_, dc, rfl, _, _⟩ := h4.form
 clear h1 h2 h3 h4
 have HL1 := κ (fun wx hx hy => lists_c (.slice ao F.length ac) (.slice co F.length cc) F F wx hx hy)
 have HL2 := κ (fun wx hx hy => lists_c (.slice bo G.length bc) (.slice do_ G.length dc) G G wx hx hy)
 rw [show (F == F) = true by simp] at HL1
 rw [show (G == G) = true by simp] at HL2
 have hB0 : Below w.heap.size w ((w.alloc (.cells #[.string S, .string U, .string H, .int .i64 n, .slice ao F.length ac, .slice bo G.length bc] 24)).alloc (.cells #[.string S, .string U, .string H, .int .i64 n, .slice co F.length cc, .slice do_ G.length dc] 24)) := ((Below.refl _ _).alloc (ρ _) _).alloc (by rw [World.size_alloc]; omega) _
 have bm0 := (Blk.new w 24 #[.string S, .string U, .string H, .int .i64 n, .slice ao F.length ac, .slice bo G.length bc]).call ((Below.refl (w.alloc (.cells #[.string S, .string U, .string H, .int .i64 n, .slice ao F.length ac, .slice bo G.length bc] 24)).heap.size (w.alloc (.cells #[.string S, .string U, .string H, .int .i64 n, .slice ao F.length ac, .slice bo G.length bc] 24))).alloc (ρ _) (.cells #[.string S, .string U, .string H, .int .i64 n, .slice co F.length cc, .slice do_ G.length dc] 24))
 have bn0 := Blk.new (w.alloc (.cells #[.string S, .string U, .string H, .int .i64 n, .slice ao F.length ac, .slice bo G.length bc] 24)) 24 #[.string S, .string U, .string H, .int .i64 n, .slice co F.length cc, .slice do_ G.length dc]
 rw [World.size_alloc] at bn0
 obtain ⟨w0, hw0⟩ : ∃ w0, w0 = (w.alloc (.cells #[.string S, .string U, .string H, .int .i64 n, .slice ao F.length ac, .slice bo G.length bc] 24)).alloc (.cells #[.string S, .string U, .string H, .int .i64 n, .slice co F.length cc, .slice do_ G.length dc] 24) := ⟨_, rfl⟩
 rw [← hw0] at hB0 bm0 bn0
 have HX := κ (fun (wx : World) (h : Below w0.heap.size w0 wx) => (show Blk wx w.heap.size 24 #[.string S, .string U, .string H, .int .i64 n, .slice ao F.length ac, .slice bo G.length bc] ∧ Blk wx (w.heap.size + 1) 24 #[.string S, .string U, .string H, .int .i64 n, .slice co F.length cc, .slice do_ G.length dc] ∧ Below w.heap.size w wx ∧ RPrms wx (.slice ao F.length ac) F ∧ RPrms wx (.slice bo G.length bc) G ∧ RPrms wx (.slice co F.length cc) F ∧ RPrms wx (.slice do_ G.length dc) G from by
  have hx := hB0.trans (h.mono hB0.size)
  exact ⟨bm0.call h, bn0.call h, hx, H1.out.below hx (ρ _), H2.out.below hx (ρ _), H3.out.below hx (ρ _), H4.out.below hx (ρ _)⟩))
 have HW0 := κ hw0
 have hZ : Below w0.heap.size w0 w0 := Below.refl _ _
 obtain ⟨bm, bn, hBB, k0, k1, k2, k3⟩ := HX.out _ hZ
 clear hw0 bm0 bn0 hB0
 obtain ⟨p0, p1, p2, p3, p4, p5⟩ := blk_f6 bm
 obtain ⟨q0, q1, q2, q3, q4, q5⟩ := blk_f6 bn
 go_enter Tryz.func43, Tryz.ntmps43
 go_wp2_with (go_at_call 64; (try rw [← HW0.out]); (first | ((with_reducible refine (HL1.out _ k0 k2).mono ?_); rintro e w1 ⟨rfl, hC⟩) | ((with_reducible refine (HL2.out _ k1 k3).mono ?_); rintro e w1 ⟨rfl, hC⟩)); replace hZ := hZ.trans (hC.below (B := w0.heap.size)); clear k0 k1 k2 k3 bm bn hBB p0 p1 p2 p3 p4 p5 q0 q1 q2 q3 q4 q5; obtain ⟨bm, bn, hBB, k0, k1, k2, k3⟩ := HX.out _ hZ; obtain ⟨p0, p1, p2, p3, p4, p5⟩ := blk_f6 bm; obtain ⟨q0, q1, q2, q3, q4, q5⟩ := blk_f6 bn)
 go_ret
 exact ⟨rfl, hBB⟩
set_option maxHeartbeats 6400000 in
theorem same5_yes (D S U H : ByteArray) (n : Int) (u1 u2 u3 v1 v2 v3 : Value) (F G P : List Prm) (w : World) (h1 : RPrms w u1 F) (h2 : RPrms w u2 G) (h3 : RPrms w u3 P) (h4 : RPrms w v1 F) (h5 : RPrms w v2 G) (h6 : RPrms w v3 P) :
  Calls Tryz.prog 20 #[.agg #[.string D, .string S, .string U, .string H, .int .i64 n, u1, u2, u3], .agg #[.string D, .string S, .string U, .string H, .int .i64 n, v1, v2, v3]] w fun e w' => e = .returned (.bool true) ∧ Below w.heap.size w w' := by
 have H1 := κ h1
 have H2 := κ h2
 have H3 := κ h3
 have H4 := κ h4
 have H5 := κ h5
 have H6 := κ h6
 obtain ⟨ao, ac, rfl, _, _⟩ := h1.form
 obtain ⟨bo, bc, rfl, _, _⟩ := h2.form
 obtain ⟨co, cc, rfl, _, _⟩ := h3.form
 obtain ⟨xo, xc, rfl, _, _⟩ := h4.form
 obtain ⟨yo, yc, rfl, _, _⟩ := h5.form
 obtain ⟨zo, zc, rfl, _, _⟩ := h6.form
 clear h1 h2 h3 h4 h5 h6
 have HS := κ (fun wx h1 h2 h3 h4 => same3_yes S U H n (.slice ao F.length ac) (.slice bo G.length bc) (.slice xo F.length xc) (.slice yo G.length yc) F G wx h1 h2 h3 h4)
 have HL := κ (fun wx hx hy => lists_c (.slice co P.length cc) (.slice zo P.length zc) P P wx hx hy)
 rw [show (P == P) = true by simp] at HL
 have hB0 : Below w.heap.size w ((w.alloc (.cells #[.string D, .string S, .string U, .string H, .int .i64 n, .slice ao F.length ac, .slice bo G.length bc, .slice co P.length cc] 26)).alloc (.cells #[.string D, .string S, .string U, .string H, .int .i64 n, .slice xo F.length xc, .slice yo G.length yc, .slice zo P.length zc] 26)) := ((Below.refl _ _).alloc (ρ _) _).alloc (by rw [World.size_alloc]; omega) _
 have bm0 := (Blk.new w 26 #[.string D, .string S, .string U, .string H, .int .i64 n, .slice ao F.length ac, .slice bo G.length bc, .slice co P.length cc]).call ((Below.refl (w.alloc (.cells #[.string D, .string S, .string U, .string H, .int .i64 n, .slice ao F.length ac, .slice bo G.length bc, .slice co P.length cc] 26)).heap.size (w.alloc (.cells #[.string D, .string S, .string U, .string H, .int .i64 n, .slice ao F.length ac, .slice bo G.length bc, .slice co P.length cc] 26))).alloc (ρ _) (.cells #[.string D, .string S, .string U, .string H, .int .i64 n, .slice xo F.length xc, .slice yo G.length yc, .slice zo P.length zc] 26))
 have bn0 := Blk.new (w.alloc (.cells #[.string D, .string S, .string U, .string H, .int .i64 n, .slice ao F.length ac, .slice bo G.length bc, .slice co P.length cc] 26)) 26 #[.string D, .string S, .string U, .string H, .int .i64 n, .slice xo F.length xc, .slice yo G.length yc, .slice zo P.length zc]
 rw [World.size_alloc] at bn0
 obtain ⟨w0, hw0⟩ : ∃ w0, w0 = (w.alloc (.cells #[.string D, .string S, .string U, .string H, .int .i64 n, .slice ao F.length ac, .slice bo G.length bc, .slice co P.length cc] 26)).alloc (.cells #[.string D, .string S, .string U, .string H, .int .i64 n, .slice xo F.length xc, .slice yo G.length yc, .slice zo P.length zc] 26) := ⟨_, rfl⟩
 rw [← hw0] at hB0 bm0 bn0
 have HX := κ (fun (wx : World) (h : Below w0.heap.size w0 wx) => (show Blk wx w.heap.size 26 #[.string D, .string S, .string U, .string H, .int .i64 n, .slice ao F.length ac, .slice bo G.length bc, .slice co P.length cc] ∧ Blk wx (w.heap.size + 1) 26 #[.string D, .string S, .string U, .string H, .int .i64 n, .slice xo F.length xc, .slice yo G.length yc, .slice zo P.length zc] ∧ Below w.heap.size w wx ∧ RPrms wx (.slice ao F.length ac) F ∧ RPrms wx (.slice bo G.length bc) G ∧ RPrms wx (.slice co P.length cc) P ∧ RPrms wx (.slice xo F.length xc) F ∧ RPrms wx (.slice yo G.length yc) G ∧ RPrms wx (.slice zo P.length zc) P from by
  have hx := hB0.trans (h.mono hB0.size)
  exact ⟨bm0.call h, bn0.call h, hx, H1.out.below hx (ρ _), H2.out.below hx (ρ _), H3.out.below hx (ρ _), H4.out.below hx (ρ _), H5.out.below hx (ρ _), H6.out.below hx (ρ _)⟩))
 have HW0 := κ hw0
 have hZ : Below w0.heap.size w0 w0 := Below.refl _ _
 obtain ⟨bm, bn, hBB, k0, k1, k2, k3, k4, k5⟩ := HX.out _ hZ
 clear hw0 bm0 bn0 hB0
 obtain ⟨p0, p1, p2, p3, p4, p5, p6, p7⟩ := blk_f8 bm
 obtain ⟨q0, q1, q2, q3, q4, q5, q6, q7⟩ := blk_f8 bn
 go_enter Tryz.func20, Tryz.ntmps20
 go_wp2_with (first | (go_at_call 43; (try rw [← HW0.out]); refine (HS.out _ k0 k1 k3 k4).mono ?_; rintro e w1 ⟨rfl, hC⟩; replace hZ := hZ.trans (hC.mono hZ.size); clear k0 k1 k2 k3 k4 k5 bm bn hBB p0 p1 p2 p3 p4 p5 p6 p7 q0 q1 q2 q3 q4 q5 q6 q7; obtain ⟨bm, bn, hBB, k0, k1, k2, k3, k4, k5⟩ := HX.out _ hZ; obtain ⟨p0, p1, p2, p3, p4, p5, p6, p7⟩ := blk_f8 bm; obtain ⟨q0, q1, q2, q3, q4, q5, q6, q7⟩ := blk_f8 bn) | (go_at_call 64; refine (HL.out _ k2 k5).mono ?_; rintro e w1 ⟨rfl, hC⟩; replace hZ := hZ.trans (hC.below (B := w0.heap.size)); clear k0 k1 k2 k3 k4 k5 bm bn hBB p0 p1 p2 p3 p4 p5 p6 p7 q0 q1 q2 q3 q4 q5 q6 q7; obtain ⟨bm, bn, hBB, k0, k1, k2, k3, k4, k5⟩ := HX.out _ hZ; obtain ⟨p0, p1, p2, p3, p4, p5, p6, p7⟩ := blk_f8 bm; obtain ⟨q0, q1, q2, q3, q4, q5, q6, q7⟩ := blk_f8 bn))
 go_ret
 exact ⟨rfl, hBB⟩
section
open Go.RowKit
def nb (c : UInt8) : Bool := !blank c
end
end Go.Proofs.YtipdiddjhimdcaaGreatDoor
