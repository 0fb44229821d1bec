/-
  rosterlaw18.plain.
-/
import Derived.Test.YtipdiddjhimdcaaGreatDoorSd
set_option linter.unusedSimpArgs false
set_option linter.unusedVariables false
set_option maxRecDepth 100000
namespace Go.Proofs.YtipdiddjhimdcaaGreatDoor
open Go.RowKit Go.Sort
def Onec (vs : Array Value) : Prop := (vs.toList.all fun v => v.oneCell') = true
def NoB (vs : Array Value) : Prop := (vs.toList.all fun x => !isBool x) = true
theorem Off.zero (g : Nat) (a : Option Addr) (c : Nat) : Off g (.slice a 0 c) := fun _ _ _ _ _ h hn => by injection h with _ h _; exact absurd h.symm hn
def pUri : Uri := ⟨[115, 105, 112], [99], [100], 5070, [], []⟩
def pFrom : Adr := ⟨[], ⟨[115, 105, 112], [99], [100], 0, [], []⟩, [⟨[116, 97, 103], [49], true⟩]⟩
def pTo : Adr := ⟨[], ⟨[115, 105, 112], [97], [98], 0, [], []⟩, []⟩
def plainRq : Rq := ⟨pFrom, pTo, [49], [], [57], 7, [⟨[], pUri, []⟩], []⟩
theorem ex18_1 : parseU [115, 105, 112, 58, 99, 64, 100, 58, 53, 48, 55, 48] = ((pUri, 0) : Uri × Int) := by decide +kernel
theorem ex18_2 : parseA [60, 115, 105, 112, 58, 99, 64, 100, 62, 59, 116, 97, 103, 61, 49] = ((pFrom, 0) : Adr × Int) := by decide +kernel
theorem ex18_3 : parseA [60, 115, 105, 112, 58, 97, 64, 98, 62] = ((pTo, 0) : Adr × Int) := by decide +kernel
set_option maxHeartbeats 6400000 in
theorem plainQ_c (w : World) : Calls Tryz.prog 26 #[] w fun e w' => ∃ rs : Array Value, e = .returned (.agg rs) ∧ rs.size = 38 ∧ Onec rs ∧ NoB rs ∧ RReq w' (.agg rs) plainRq ∧ Below w.heap.size w w' := by
 have H1 := κ (fun wx => parseUR_c ⟨#[115, 105, 112, 58, 99, 64, 100, 58, 53, 48, 55, 48]⟩ (by decide) wx)
 have H2 := κ (fun wx => parseAR_c ⟨#[60, 115, 105, 112, 58, 99, 64, 100, 62, 59, 116, 97, 103, 61, 49]⟩ (by decide) wx)
 have H3 := κ (fun wx => parseAR_c ⟨#[60, 115, 105, 112, 58, 97, 64, 98, 62]⟩ (by decide) wx)
 rw [show us ⟨#[115, 105, 112, 58, 99, 64, 100, 58, 53, 48, 55, 48]⟩ = [115, 105, 112, 58, 99, 64, 100, 58, 53, 48, 55, 48] from rfl, ex18_1] at H1
 rw [show us ⟨#[60, 115, 105, 112, 58, 99, 64, 100, 62, 59, 116, 97, 103, 61, 49]⟩ = [60, 115, 105, 112, 58, 99, 64, 100, 62, 59, 116, 97, 103, 61, 49] from rfl, ex18_2] at H2
 rw [show us ⟨#[60, 115, 105, 112, 58, 97, 64, 98, 62]⟩ = [60, 115, 105, 112, 58, 97, 64, 98, 62] from rfl, ex18_3] at H3
 unfold UriPost at H1
 unfold AdrPost at H2 H3
 dsimp only [pUri, pFrom, pTo] at H1 H2 H3
 rw [show sv [115, 105, 112] = .string ⟨#[115, 105, 112]⟩ from rfl, show sv [99] = .string ⟨#[99]⟩ from rfl, show sv [100] = .string ⟨#[100]⟩ from rfl] at H1
 rw [show sv [] = .string ⟨#[]⟩ from rfl, show sv [115, 105, 112] = .string ⟨#[115, 105, 112]⟩ from rfl, show sv [99] = .string ⟨#[99]⟩ from rfl, show sv [100] = .string ⟨#[100]⟩ from rfl] at H2
 rw [show sv [] = .string ⟨#[]⟩ from rfl, show sv [115, 105, 112] = .string ⟨#[115, 105, 112]⟩ from rfl, show sv [97] = .string ⟨#[97]⟩ from rfl, show sv [98] = .string ⟨#[98]⟩ from rfl] at H3
 have hB0 : Below w.heap.size w (w.alloc (.cells #[(.string ⟨#[]⟩), (.string ⟨#[]⟩), (.string ⟨#[]⟩), (.string ⟨#[]⟩), (.int .i64 0), (.slice none 0 0), (.slice none 0 0), (.string ⟨#[]⟩), (.string ⟨#[]⟩), (.string ⟨#[]⟩), (.string ⟨#[]⟩), (.string ⟨#[]⟩), (.string ⟨#[]⟩), (.int .i64 0), (.slice none 0 0), (.slice none 0 0), (.slice none 0 0), (.string ⟨#[]⟩), (.string ⟨#[]⟩), (.string ⟨#[]⟩), (.string ⟨#[]⟩), (.int .i64 0), (.slice none 0 0), (.slice none 0 0), (.slice none 0 0), (.string ⟨#[]⟩), (.string ⟨#[]⟩), (.string ⟨#[]⟩), (.int .i64 0), (.int .i64 0), (.string ⟨#[]⟩), (.slice none 0 0), (.slice none 0 0), (.slice none 0 0), (.slice none 0 0), (.string ⟨#[]⟩), (.string ⟨#[]⟩), (.string ⟨#[]⟩)] 32)) := (Below.refl _ _).alloc (ρ _) _
 have br := Blk.new w 32 #[(.string ⟨#[]⟩), (.string ⟨#[]⟩), (.string ⟨#[]⟩), (.string ⟨#[]⟩), (.int .i64 0), (.slice none 0 0), (.slice none 0 0), (.string ⟨#[]⟩), (.string ⟨#[]⟩), (.string ⟨#[]⟩), (.string ⟨#[]⟩), (.string ⟨#[]⟩), (.string ⟨#[]⟩), (.int .i64 0), (.slice none 0 0), (.slice none 0 0), (.slice none 0 0), (.string ⟨#[]⟩), (.string ⟨#[]⟩), (.string ⟨#[]⟩), (.string ⟨#[]⟩), (.int .i64 0), (.slice none 0 0), (.slice none 0 0), (.slice none 0 0), (.string ⟨#[]⟩), (.string ⟨#[]⟩), (.string ⟨#[]⟩), (.int .i64 0), (.int .i64 0), (.string ⟨#[]⟩), (.slice none 0 0), (.slice none 0 0), (.slice none 0 0), (.slice none 0 0), (.string ⟨#[]⟩), (.string ⟨#[]⟩), (.string ⟨#[]⟩)]
 obtain ⟨w0, hw0⟩ : ∃ w0, w0 = w.alloc (.cells #[(.string ⟨#[]⟩), (.string ⟨#[]⟩), (.string ⟨#[]⟩), (.string ⟨#[]⟩), (.int .i64 0), (.slice none 0 0), (.slice none 0 0), (.string ⟨#[]⟩), (.string ⟨#[]⟩), (.string ⟨#[]⟩), (.string ⟨#[]⟩), (.string ⟨#[]⟩), (.string ⟨#[]⟩), (.int .i64 0), (.slice none 0 0), (.slice none 0 0), (.slice none 0 0), (.string ⟨#[]⟩), (.string ⟨#[]⟩), (.string ⟨#[]⟩), (.string ⟨#[]⟩), (.int .i64 0), (.slice none 0 0), (.slice none 0 0), (.slice none 0 0), (.string ⟨#[]⟩), (.string ⟨#[]⟩), (.string ⟨#[]⟩), (.int .i64 0), (.int .i64 0), (.string ⟨#[]⟩), (.slice none 0 0), (.slice none 0 0), (.slice none 0 0), (.slice none 0 0), (.string ⟨#[]⟩), (.string ⟨#[]⟩), (.string ⟨#[]⟩)] 32) := ⟨_, rfl⟩
 rw [← hw0] at hB0 br
 have HW0 := κ hw0
 clear hw0
 go_enter Tryz.func26, Tryz.ntmps26
 go_upto_region 1 with fail
 rw [← HW0.out]
 clear HW0
 go_upto_region 2 with (go_at_call 68; refine (H1.out _).mono ?_; rintro e w1 ⟨v1, v2, rfl, r1, r2, _, _, hC1⟩; obtain ⟨a1, c1, rfl, _⟩ := r1.form; obtain ⟨a2, c2, rfl, _⟩ := r2.form)
 have hB1 := hB0.trans (hC1.mono hB0.size)
 replace hB1 := hB1.alloc hB1.size (.cells #[.string ⟨#[115, 105, 112]⟩, .string ⟨#[99]⟩, .string ⟨#[100]⟩, .int .i64 5070, .slice a1 0 c1, .slice a2 0 c2] 24)
 replace br := (br.call hC1).alloc (.cells #[.string ⟨#[115, 105, 112]⟩, .string ⟨#[99]⟩, .string ⟨#[100]⟩, .int .i64 5070, .slice a1 0 c1, .slice a2 0 c2] 24)
 have bu := Blk.new w1 24 #[.string ⟨#[115, 105, 112]⟩, .string ⟨#[99]⟩, .string ⟨#[100]⟩, .int .i64 5070, .slice a1 0 c1, .slice a2 0 c2]
 have hA : Below w1.heap.size w1 (w1.alloc (.cells #[.string ⟨#[115, 105, 112]⟩, .string ⟨#[99]⟩, .string ⟨#[100]⟩, .int .i64 5070, .slice a1 0 c1, .slice a2 0 c2] 24)) := (Below.refl _ _).alloc (ρ _) _
 replace r1 := r1.below hA (ρ _)
 replace r2 := r2.below hA (ρ _)
 obtain ⟨g1, hg1⟩ : ∃ x, x = w1.heap.size := ⟨_, rfl⟩
 obtain ⟨w2, hw2⟩ : ∃ x, x = w1.alloc (.cells #[.string ⟨#[115, 105, 112]⟩, .string ⟨#[99]⟩, .string ⟨#[100]⟩, .int .i64 5070, .slice a1 0 c1, .slice a2 0 c2] 24) := ⟨_, rfl⟩
 rw [← hw2] at hB1 br bu r1 r2
 rw [← hw2]
 rw [← hg1] at bu
 rw [← hg1]
 clear hw2 hg1 hA hC1 hB0
 go_upto_region 3 with (go_at_call 69; refine (H2.out _).mono ?_; rintro e w3 ⟨v3, v4, v5, rfl, r3, r4, r5, _, _, f5, hC⟩; have o5 : Off w.heap.size v5 := Off.fresh f5 br.lt; clear f5; obtain ⟨a3, c3, rfl, _⟩ := r3.form; obtain ⟨a4, c4, rfl, _⟩ := r4.form; obtain ⟨a5, c5, rfl, _⟩ := r5.form)
 have hB3 := hB1.trans (hC.mono hB1.size)
 replace hB3 := hB3.alloc hB3.size (.cells #[.string ⟨#[]⟩, .string ⟨#[115, 105, 112]⟩, .string ⟨#[99]⟩, .string ⟨#[100]⟩, .int .i64 0, .slice a3 0 c3, .slice a4 0 c4, .slice a5 1 c5] 26)
 replace br := (br.call hC).alloc (.cells #[.string ⟨#[]⟩, .string ⟨#[115, 105, 112]⟩, .string ⟨#[99]⟩, .string ⟨#[100]⟩, .int .i64 0, .slice a3 0 c3, .slice a4 0 c4, .slice a5 1 c5] 26)
 replace bu := (bu.call hC).alloc (.cells #[.string ⟨#[]⟩, .string ⟨#[115, 105, 112]⟩, .string ⟨#[99]⟩, .string ⟨#[100]⟩, .int .i64 0, .slice a3 0 c3, .slice a4 0 c4, .slice a5 1 c5] 26)
 have bf := Blk.new w3 26 #[.string ⟨#[]⟩, .string ⟨#[115, 105, 112]⟩, .string ⟨#[99]⟩, .string ⟨#[100]⟩, .int .i64 0, .slice a3 0 c3, .slice a4 0 c4, .slice a5 1 c5]
 have hA : Below w3.heap.size w3 (w3.alloc (.cells #[.string ⟨#[]⟩, .string ⟨#[115, 105, 112]⟩, .string ⟨#[99]⟩, .string ⟨#[100]⟩, .int .i64 0, .slice a3 0 c3, .slice a4 0 c4, .slice a5 1 c5] 26)) := (Below.refl _ _).alloc (ρ _) _
 replace r1 := (r1.below hC (ρ _)).below hA (ρ _)
 replace r2 := (r2.below hC (ρ _)).below hA (ρ _)
 replace r3 := r3.below hA (ρ _)
 replace r4 := r4.below hA (ρ _)
 replace r5 := r5.below hA (ρ _)
 obtain ⟨g3, hg3⟩ : ∃ x, x = w3.heap.size := ⟨_, rfl⟩
 obtain ⟨w4, hw4⟩ : ∃ x, x = w3.alloc (.cells #[.string ⟨#[]⟩, .string ⟨#[115, 105, 112]⟩, .string ⟨#[99]⟩, .string ⟨#[100]⟩, .int .i64 0, .slice a3 0 c3, .slice a4 0 c4, .slice a5 1 c5] 26) := ⟨_, rfl⟩
 rw [← hw4] at hB3 br bu bf r1 r2 r3 r4 r5
 rw [← hw4]
 rw [← hg3] at bf
 rw [← hg3]
 clear hw4 hg3 hA hC hB1
 go_upto_region 4 with (go_at_call 69; refine (H3.out _).mono ?_; rintro e w5 ⟨v6, v7, v8, rfl, r6, r7, r8, _, _, _, hC⟩; obtain ⟨a6, c6, rfl, _⟩ := r6.form; obtain ⟨a7, c7, rfl, _⟩ := r7.form; obtain ⟨a8, c8, rfl, _⟩ := r8.form)
 have hB5 := hB3.trans (hC.mono hB3.size)
 replace hB5 := hB5.alloc hB5.size (.cells #[.string ⟨#[]⟩, .string ⟨#[115, 105, 112]⟩, .string ⟨#[97]⟩, .string ⟨#[98]⟩, .int .i64 0, .slice a6 0 c6, .slice a7 0 c7, .slice a8 0 c8] 26)
 replace br := (br.call hC).alloc (.cells #[.string ⟨#[]⟩, .string ⟨#[115, 105, 112]⟩, .string ⟨#[97]⟩, .string ⟨#[98]⟩, .int .i64 0, .slice a6 0 c6, .slice a7 0 c7, .slice a8 0 c8] 26)
 replace bu := (bu.call hC).alloc (.cells #[.string ⟨#[]⟩, .string ⟨#[115, 105, 112]⟩, .string ⟨#[97]⟩, .string ⟨#[98]⟩, .int .i64 0, .slice a6 0 c6, .slice a7 0 c7, .slice a8 0 c8] 26)
 replace bf := (bf.call hC).alloc (.cells #[.string ⟨#[]⟩, .string ⟨#[115, 105, 112]⟩, .string ⟨#[97]⟩, .string ⟨#[98]⟩, .int .i64 0, .slice a6 0 c6, .slice a7 0 c7, .slice a8 0 c8] 26)
 have bt := Blk.new w5 26 #[.string ⟨#[]⟩, .string ⟨#[115, 105, 112]⟩, .string ⟨#[97]⟩, .string ⟨#[98]⟩, .int .i64 0, .slice a6 0 c6, .slice a7 0 c7, .slice a8 0 c8]
 have hA : Below w5.heap.size w5 (w5.alloc (.cells #[.string ⟨#[]⟩, .string ⟨#[115, 105, 112]⟩, .string ⟨#[97]⟩, .string ⟨#[98]⟩, .int .i64 0, .slice a6 0 c6, .slice a7 0 c7, .slice a8 0 c8] 26)) := (Below.refl _ _).alloc (ρ _) _
 replace r1 := (r1.below hC (ρ _)).below hA (ρ _)
 replace r2 := (r2.below hC (ρ _)).below hA (ρ _)
 replace r3 := (r3.below hC (ρ _)).below hA (ρ _)
 replace r4 := (r4.below hC (ρ _)).below hA (ρ _)
 replace r5 := (r5.below hC (ρ _)).below hA (ρ _)
 replace r6 := r6.below hA (ρ _)
 replace r7 := r7.below hA (ρ _)
 replace r8 := r8.below hA (ρ _)
 obtain ⟨g5, hg5⟩ : ∃ x, x = w5.heap.size := ⟨_, rfl⟩
 obtain ⟨w6, hw6⟩ : ∃ x, x = w5.alloc (.cells #[.string ⟨#[]⟩, .string ⟨#[115, 105, 112]⟩, .string ⟨#[97]⟩, .string ⟨#[98]⟩, .int .i64 0, .slice a6 0 c6, .slice a7 0 c7, .slice a8 0 c8] 26) := ⟨_, rfl⟩
 rw [← hw6] at hB5 br bu bf bt r1 r2 r3 r4 r5 r6 r7 r8
 rw [← hw6]
 rw [← hg5] at bt
 rw [← hg5]
 clear hw6 hg5 hA hC hB3
 have HB := κ hB5
 have HR := κ (And.intro r1 (And.intro r2 (And.intro r3 (And.intro r4 (And.intro r5 (And.intro r6 (And.intro r7 r8)))))))
 have hlt6 := br.lt
 have bc := Blk.new w6 26 #[.string ⟨#[]⟩, .string ⟨#[115, 105, 112]⟩, .string ⟨#[99]⟩, .string ⟨#[100]⟩, .int .i64 5070, .slice a1 0 c1, .slice a2 0 c2, .slice none 0 0]
 replace br := br.alloc (.cells #[.string ⟨#[]⟩, .string ⟨#[115, 105, 112]⟩, .string ⟨#[99]⟩, .string ⟨#[100]⟩, .int .i64 5070, .slice a1 0 c1, .slice a2 0 c2, .slice none 0 0] 26)
 have HBr := κ br
 have HBc := κ bc
 have hs : w.heap.size < w6.heap.size := hlt6
 clear r1 r2 r3 r4 r5 r6 r7 r8 br bc hB5
 obtain ⟨x0, x1, x2, x3, x4, x5⟩ := blk_f6 bu
 obtain ⟨f0, f1, f2, f3, f4, f5, f6, f7, _, _, _, _, _, _, _, _, zR⟩ := blk_h8 bf
 obtain ⟨t0, t1, t2, t3, t4, t5, t6, t7, _, _, _, _, _, _, _, _, zT⟩ := blk_h8 bt
 go_wp2_with (refine wpList_storeB (vs := #[.string ⟨#[83, 85, 66, 83, 67, 82, 73, 66, 69]⟩, (.string ⟨#[]⟩), (.string ⟨#[]⟩), (.string ⟨#[]⟩), (.int .i64 0), (.slice none 0 0), (.slice none 0 0), (.string ⟨#[]⟩), (.string ⟨#[]⟩), .string ⟨#[]⟩, .string ⟨#[115, 105, 112]⟩, .string ⟨#[99]⟩, .string ⟨#[100]⟩, .int .i64 0, .slice a3 0 c3, .slice a4 0 c4, .slice a5 1 c5, .string ⟨#[]⟩, .string ⟨#[115, 105, 112]⟩, .string ⟨#[97]⟩, .string ⟨#[98]⟩, .int .i64 0, .slice a6 0 c6, .slice a7 0 c7, .slice a8 0 c8, .string ⟨#[49]⟩, (.string ⟨#[]⟩), .string ⟨#[57]⟩, .int .i64 7, (.int .i64 0), (.string ⟨#[]⟩), (.slice none 0 0), .slice (some ⟨w6.heap.size, 0, none⟩) 1 1, (.slice none 0 0), (.slice none 0 0), (.string ⟨#[]⟩), (.string ⟨#[]⟩), (.string ⟨#[]⟩)]) (cs' := #[.string ⟨#[83, 85, 66, 83, 67, 82, 73, 66, 69]⟩, (.string ⟨#[]⟩), (.string ⟨#[]⟩), (.string ⟨#[]⟩), (.int .i64 0), (.slice none 0 0), (.slice none 0 0), (.string ⟨#[]⟩), (.string ⟨#[]⟩), .string ⟨#[]⟩, .string ⟨#[115, 105, 112]⟩, .string ⟨#[99]⟩, .string ⟨#[100]⟩, .int .i64 0, .slice a3 0 c3, .slice a4 0 c4, .slice a5 1 c5, .string ⟨#[]⟩, .string ⟨#[115, 105, 112]⟩, .string ⟨#[97]⟩, .string ⟨#[98]⟩, .int .i64 0, .slice a6 0 c6, .slice a7 0 c7, .slice a8 0 c8, .string ⟨#[49]⟩, (.string ⟨#[]⟩), .string ⟨#[57]⟩, .int .i64 7, (.int .i64 0), (.string ⟨#[]⟩), (.slice none 0 0), .slice (some ⟨w6.heap.size, 0, none⟩) 1 1, (.slice none 0 0), (.slice none 0 0), (.string ⟨#[]⟩), (.string ⟨#[]⟩), (.string ⟨#[]⟩)]) rfl rfl rfl rfl (by kernel_rfl) HBr.out (Nat.le_of_eq (by kernel_rfl)) (by kernel_rfl) (by kernel_rfl) ?_; intro w9 bz9 hfar9 hsz9 hbel9)
 refine bodyPost_ret (results_c rfl rfl Tryz.underlying32 (by kernel_rfl) bz9) rfl ?_
 have hBf := ((HB.out.alloc HB.out.size _).trans (hbel9 _ (ρ _)))
 have bc9 : Blk w9 w6.heap.size 26 #[.string ⟨#[]⟩, .string ⟨#[115, 105, 112]⟩, .string ⟨#[99]⟩, .string ⟨#[100]⟩, .int .i64 5070, .slice a1 0 c1, .slice a2 0 c2, .slice none 0 0] := (hfar9 _ (by omega)).trans HBc.out
 have hA : Below w6.heap.size w6 (w6.alloc (.cells #[.string ⟨#[]⟩, .string ⟨#[115, 105, 112]⟩, .string ⟨#[99]⟩, .string ⟨#[100]⟩, .int .i64 5070, .slice a1 0 c1, .slice a2 0 c2, .slice none 0 0] 26)) := (Below.refl _ _).alloc (ρ _) _
 obtain ⟨r1, r2, r3, r4, r5, r6, r7, r8⟩ := HR.out
 have hs9 := Nat.le_of_eq hsz9.symm
 replace r1 := Off.prms (r1.below hA (ρ _)) (Off.zero _ _ _) hfar9 hs9
 replace r2 := Off.prms (r2.below hA (ρ _)) (Off.zero _ _ _) hfar9 hs9
 replace r3 := Off.prms (r3.below hA (ρ _)) (Off.zero _ _ _) hfar9 hs9
 replace r4 := Off.prms (r4.below hA (ρ _)) (Off.zero _ _ _) hfar9 hs9
 replace r5 := Off.prms (r5.below hA (ρ _)) o5 hfar9 hs9
 replace r6 := Off.prms (r6.below hA (ρ _)) (Off.zero _ _ _) hfar9 hs9
 replace r7 := Off.prms (r7.below hA (ρ _)) (Off.zero _ _ _) hfar9 hs9
 replace r8 := Off.prms (r8.below hA (ρ _)) (Off.zero _ _ _) hfar9 hs9
 have hlt9 := bc9.lt
 refine ⟨_, rfl, by kernel_rfl, (show _ = true by kernel_rfl), (show _ = true by kernel_rfl), ⟨(.string ⟨#[83, 85, 66, 83, 67, 82, 73, 66, 69]⟩), (.string ⟨#[]⟩), (.string ⟨#[]⟩), (.string ⟨#[]⟩), (.int .i64 0), (.slice none 0 0), (.slice none 0 0), (.string ⟨#[]⟩), (.string ⟨#[]⟩), (.int .i64 0), (.string ⟨#[]⟩), (.slice none 0 0), (.slice none 0 0), (.string ⟨#[]⟩), (.string ⟨#[]⟩), (.string ⟨#[]⟩), (.slice a3 0 c3), (.slice a4 0 c4), (.slice a5 1 c5), (.slice a6 0 c6), (.slice a7 0 c7), (.slice a8 0 c8), (.slice (some ⟨w6.heap.size, 0, none⟩) 1 1), (.slice none 0 0), by kernel_rfl, r3, r4, r5, r6, r7, r8, .inr ⟨w6.heap.size, 0, 1, rfl, ρ _, by decide, hlt9, ?_⟩, RStrs.emp _⟩, hBf⟩
 intro j hj
 obtain rfl : j = 0 := by have h : j < 1 := hj; omega
 exact ⟨boxedCell bc9 0, boxedCell bc9 1, boxedCell bc9 2, boxedCell bc9 3, boxedCell bc9 4, _, _, _, boxedCell bc9 5, boxedCell bc9 6, boxedCell bc9 7, r1, r2, RPrms.emp _⟩
end Go.Proofs.YtipdiddjhimdcaaGreatDoor
