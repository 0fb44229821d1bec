/- Contracts of Go functions, and plain laws. No condition but those told. -/
import Derived.Test.YtgkilllbkljibaaGreatDoorR06
set_option linter.unusedSimpArgs false
set_option linter.unusedVariables false
namespace Go.Proofs.YtgkilllbkljibaaGreatDoor
open Go.RowKit
theorem nmFiR : (Tryz.f117.name == "runtime.NumGoroutine") = false := by kernel_rfl
theorem bdFiR : Tryz.f117.body.isNone = false := by kernel_rfl
set_option maxRecDepth 100000 in
set_option maxHeartbeats 12800000 in
theorem startR_res (s A R B C : ByteArray) (n e : Int) (hC : C.size ≤ 4294967280) (w : World)
  (H1 : ∀ wx, Calls Tryz.prog 55 #[.string s, .int .u8 32] wx fun e w' => e = .returned (.tuple #[.string A, .string R, .bool true]) ∧ Drn wx w')
  (H2 : ∀ wx, Calls Tryz.prog 55 #[.string R, .int .u8 32] wx fun e w' => e = .returned (.tuple #[.string B, .string C, .bool true]) ∧ Drn wx w')
  (H3 : ∀ wx, Calls Tryz.prog 116 #[.string A, .string ⟨#[83, 73, 80, 47, 50, 46, 48]⟩] wx fun e w' => e = .returned (.bool true) ∧ Below wx.heap.size wx w')
  (H4 : ∀ wx, Calls Tryz.prog 62 #[.string B, .int .i64 999] wx fun x w' => x = .returned (.tuple #[.int .i64 n, .int .i64 e]) ∧ wx = w') :
  Calls Tryz.prog 54 #[.string s] w fun x w' => ∃ v, x = .returned (.tuple #[v, .bool ((e == 0) && decide (B.size = 3) && firstS ⟨[], [], n, us C, [], []⟩)]) ∧ Below w.heap.size w w' ∧
   v = .agg #[.string ⟨#[]⟩, .string ⟨#[]⟩, .int .i64 n, .string C, .slice none 0 0, .string ⟨#[]⟩] := by
 have H1' := κ H1
 have H2' := κ H2
 have H3' := κ H3
 have H4' := κ H4
 clear H1 H2 H3 H4
 have HF := κ (fun wx => firstR_c ⟨#[]⟩ ⟨#[]⟩ C ⟨#[]⟩ n (.slice none 0 0) [] (Nat.zero_le _) (Nat.zero_le _) hC wx)
 have hfe : firstS ⟨us ⟨#[]⟩, us ⟨#[]⟩, n, us C, [], us ⟨#[]⟩⟩ = firstS ⟨[], [], n, us C, [], []⟩ := rfl
 rw [hfe] at HF
 obtain ⟨f, hf⟩ : ∃ f, f = firstS ⟨[], [], n, us C, [], []⟩ := ⟨_, rfl⟩
 rw [← hf] at HF ⊢
 clear hf hfe
 have b2 : Blk (w.alloc (.cells #[.string ⟨#[]⟩, .string ⟨#[]⟩, .int .i64 0, .string ⟨#[]⟩, .slice none 0 0, .string ⟨#[]⟩] 24)) w.heap.size 24 #[.string ⟨#[]⟩, .string ⟨#[]⟩, .int .i64 0, .string ⟨#[]⟩, .slice none 0 0, .string ⟨#[]⟩] := Blk.new _ _ _
 have hBS : Below w.heap.size w (w.alloc (.cells #[.string ⟨#[]⟩, .string ⟨#[]⟩, .int .i64 0, .string ⟨#[]⟩, .slice none 0 0, .string ⟨#[]⟩] 24)) := (Below.refl _ _).alloc (ρ _) _
 have HX := κ (fun (wx : World) (h : Below (w.alloc (.cells #[.string ⟨#[]⟩, .string ⟨#[]⟩, .int .i64 0, .string ⟨#[]⟩, .slice none 0 0, .string ⟨#[]⟩] 24)).heap.size (w.alloc (.cells #[.string ⟨#[]⟩, .string ⟨#[]⟩, .int .i64 0, .string ⟨#[]⟩, .slice none 0 0, .string ⟨#[]⟩] 24)) wx) => (⟨b2.call h, hBS.trans (h.mono hBS.size), by have := h.size; rw [World.size_alloc] at this; exact this⟩ : Blk wx w.heap.size 24 #[.string ⟨#[]⟩, .string ⟨#[]⟩, .int .i64 0, .string ⟨#[]⟩, .slice none 0 0, .string ⟨#[]⟩] ∧ Below w.heap.size w wx ∧ w.heap.size + 1 ≤ wx.heap.size))
 clear b2 hBS
 have hcase : (e == 0) = false ∨ ((e == 0) = true ∧ ((B.size : Int) == 3) = false) ∨ ((e == 0) = true ∧ ((B.size : Int) == 3) = true) := by
  cases (e == 0) <;> cases ((B.size : Int) == 3) <;> simp
 have hdec : decide (B.size = 3) = ((B.size : Int) == 3) := by rw [Bool.eq_iff_iff]; simp; omega
 rw [hdec]
 clear hdec
 rcases hcase with he | ⟨he, hb⟩ | ⟨he, hb⟩
 ·go_enter Tryz.func54, Tryz.ntmps54
  go_wp2_with (first | (go_at_call 55; ((with_reducible refine (H1'.out _).mono ?_); rintro x w1 ⟨rfl, hD1⟩)) | (go_at_call 55; ((with_reducible refine (H2'.out _).mono ?_); rintro x w2 ⟨rfl, hD2⟩)) | (go_at_call 116; ((with_reducible refine (H3'.out _).mono ?_); rintro x w3 ⟨rfl, hD3⟩); obtain ⟨b2, hBS, hsz⟩ := HX.out w3 ((hD1.trans hD2).below.trans (hD3.mono ((hD1.trans hD2).below (B := 0)).size))) | (go_at_call 62; refine (H4'.out _).mono ?_; rintro x w4 ⟨rfl, rfl⟩))
  refine any_world (R := Code.wp _ _ _ _) (fun w' => Blk w' w.heap.size 24 #[.string ⟨#[]⟩, .string ⟨#[]⟩, .int .i64 0, .string ⟨#[]⟩, .slice none 0 0, .string ⟨#[]⟩] ∧ Blk w' w3.heap.size 24 #[.string ⟨#[]⟩, .string ⟨#[]⟩, .int .i64 n, .string C, .slice none 0 0, .string ⟨#[]⟩] ∧ Below w.heap.size w w') ⟨b2.alloc _, Blk.new _ _ _, hBS.alloc hBS.size _⟩ ?_
  clear b2 hBS
  rintro wS ⟨b2, b4, hBS⟩
  obtain ⟨p0, p1, p2, p3, p4, p5, _, _, _, _, _, _, _⟩ := b4.g6
  obtain ⟨_, _, _, _, _, _, f0, f1, f2, f3, f4, f5, z2⟩ := b2.g6
  refine wp_region_any (by kernel_rfl) ?_
  try (change wpAny _ _ _ _ _ _ _ (World.drew _))
  first | refine tkU 1 ?_ | refine tkV 1 ?_
  try go_simp
  first | refine tkU 2 ?_ | refine tkV 2 ?_
  try go_simp
  first | refine tkU 3 ?_ | refine tkV 3 ?_
  try go_simp
  first | refine tkU 4 ?_ | refine tkV 4 ?_
  try go_simp
  first | refine tkU 5 ?_ | refine tkV 5 ?_
  try go_simp
  first | refine tkU 6 ?_ | refine tkV 6 ?_
  try go_simp
  first | refine tkU 7 ?_ | refine tkV 7 ?_
  try go_simp
  first | refine tkU 8 ?_ | refine tkV 8 ?_
  try go_simp
  first | refine tkU 9 ?_ | refine tkV 9 ?_
  try go_simp
  first | refine tkU 10 ?_ | refine tkV 10 ?_
  try go_simp
  first | refine tkU 11 ?_ | refine tkV 11 ?_
  try go_simp
  refine rdyA 0 (fun K hK => ?_)
  go_simp
  refine hK _ _ ?_; clear hK K
  refine rdyA 12 (fun K hK => ?_)
  go_simp
  refine hK _ _ ?_; clear hK K
  refine rdyA 13 (fun K hK => ?_)
  go_simp
  refine hK _ _ ?_; clear hK K
  refine wpAny_done (by kernel_rfl) ?_ _
  go_wp2
  refine any_world (R := bodyPost _ _ _ _ _) (fun w' => Blk w' w.heap.size 24 #[.string ⟨#[]⟩, .string ⟨#[]⟩, .int .i64 n, .string C, .slice none 0 0, .string ⟨#[]⟩] ∧ Below w.heap.size w w') ⟨b2.put6.drew, (below_put6 hBS (ρ _)).drew⟩ ?_
  rintro wF ⟨bF, hBF⟩
  obtain ⟨r0, r1, r2, r3, r4, r5, _⟩ := bF.g6
  refine bodyPost_ret (v := .tuple #[.agg #[.string ⟨#[]⟩, .string ⟨#[]⟩, .int .i64 n, .string C, .slice none 0 0, .string ⟨#[]⟩], .bool false]) (by simp [results, Tryz.results54, go_sem, r0, r1, r2, r3, r4, r5]) rfl ?_
  exact ⟨_, (by simp [he]), hBF, rfl⟩
 ·go_enter Tryz.func54, Tryz.ntmps54
  go_wp2_with (first | (go_at_call 55; ((with_reducible refine (H1'.out _).mono ?_); rintro x w1 ⟨rfl, hD1⟩)) | (go_at_call 55; ((with_reducible refine (H2'.out _).mono ?_); rintro x w2 ⟨rfl, hD2⟩)) | (go_at_call 116; ((with_reducible refine (H3'.out _).mono ?_); rintro x w3 ⟨rfl, hD3⟩); obtain ⟨b2, hBS, hsz⟩ := HX.out w3 ((hD1.trans hD2).below.trans (hD3.mono ((hD1.trans hD2).below (B := 0)).size))) | (go_at_call 62; refine (H4'.out _).mono ?_; rintro x w4 ⟨rfl, rfl⟩))
  refine any_world (R := Code.wp _ _ _ _) (fun w' => Blk w' w.heap.size 24 #[.string ⟨#[]⟩, .string ⟨#[]⟩, .int .i64 0, .string ⟨#[]⟩, .slice none 0 0, .string ⟨#[]⟩] ∧ Blk w' w3.heap.size 24 #[.string ⟨#[]⟩, .string ⟨#[]⟩, .int .i64 n, .string C, .slice none 0 0, .string ⟨#[]⟩] ∧ Below w.heap.size w w') ⟨b2.alloc _, Blk.new _ _ _, hBS.alloc hBS.size _⟩ ?_
  clear b2 hBS
  rintro wS ⟨b2, b4, hBS⟩
  obtain ⟨p0, p1, p2, p3, p4, p5, _, _, _, _, _, _, _⟩ := b4.g6
  obtain ⟨_, _, _, _, _, _, f0, f1, f2, f3, f4, f5, z2⟩ := b2.g6
  refine wp_region_any (by kernel_rfl) ?_
  try (change wpAny _ _ _ _ _ _ _ (World.drew _))
  first | refine tkU 1 ?_ | refine tkV 1 ?_
  try go_simp
  first | refine tkU 2 ?_ | refine tkV 2 ?_
  try go_simp
  first | refine tkU 3 ?_ | refine tkV 3 ?_
  try go_simp
  first | refine tkU 4 ?_ | refine tkV 4 ?_
  try go_simp
  first | refine tkU 5 ?_ | refine tkV 5 ?_
  try go_simp
  first | refine tkU 6 ?_ | refine tkV 6 ?_
  try go_simp
  first | refine tkU 7 ?_ | refine tkV 7 ?_
  try go_simp
  first | refine tkU 8 ?_ | refine tkV 8 ?_
  try go_simp
  first | refine tkU 9 ?_ | refine tkV 9 ?_
  try go_simp
  first | refine tkU 10 ?_ | refine tkV 10 ?_
  try go_simp
  first | refine tkU 11 ?_ | refine tkV 11 ?_
  try go_simp
  refine rdyA 0 (fun K hK => ?_)
  go_simp
  refine hK _ _ ?_; clear hK K
  refine rdyA 12 (fun K hK => ?_)
  go_simp
  refine hK _ _ ?_; clear hK K
  refine rdyA 13 (fun K hK => ?_)
  go_simp
  refine hK _ _ ?_; clear hK K
  refine wpAny_done (by kernel_rfl) ?_ _
  go_wp2
  refine any_world (R := bodyPost _ _ _ _ _) (fun w' => Blk w' w.heap.size 24 #[.string ⟨#[]⟩, .string ⟨#[]⟩, .int .i64 n, .string C, .slice none 0 0, .string ⟨#[]⟩] ∧ Below w.heap.size w w') ⟨b2.put6.drew, (below_put6 hBS (ρ _)).drew⟩ ?_
  rintro wF ⟨bF, hBF⟩
  obtain ⟨r0, r1, r2, r3, r4, r5, _⟩ := bF.g6
  refine bodyPost_ret (v := .tuple #[.agg #[.string ⟨#[]⟩, .string ⟨#[]⟩, .int .i64 n, .string C, .slice none 0 0, .string ⟨#[]⟩], .bool false]) (by simp [results, Tryz.results54, go_sem, r0, r1, r2, r3, r4, r5]) rfl ?_
  exact ⟨_, (by simp [he, hb]), hBF, rfl⟩
 ·go_enter Tryz.func54, Tryz.ntmps54
  go_wp2_with (first | (go_at_call 55; ((with_reducible refine (H1'.out _).mono ?_); rintro x w1 ⟨rfl, hD1⟩)) | (go_at_call 55; ((with_reducible refine (H2'.out _).mono ?_); rintro x w2 ⟨rfl, hD2⟩)) | (go_at_call 116; ((with_reducible refine (H3'.out _).mono ?_); rintro x w3 ⟨rfl, hD3⟩); obtain ⟨b2, hBS, hsz⟩ := HX.out w3 ((hD1.trans hD2).below.trans (hD3.mono ((hD1.trans hD2).below (B := 0)).size))) | (go_at_call 62; refine (H4'.out _).mono ?_; rintro x w4 ⟨rfl, rfl⟩))
  refine any_world (R := Code.wp _ _ _ _) (fun w' => Blk w' w.heap.size 24 #[.string ⟨#[]⟩, .string ⟨#[]⟩, .int .i64 0, .string ⟨#[]⟩, .slice none 0 0, .string ⟨#[]⟩] ∧ Blk w' w3.heap.size 24 #[.string ⟨#[]⟩, .string ⟨#[]⟩, .int .i64 n, .string C, .slice none 0 0, .string ⟨#[]⟩] ∧ Below w.heap.size w w') ⟨b2.alloc _, Blk.new _ _ _, hBS.alloc hBS.size _⟩ ?_
  clear b2 hBS
  rintro wS ⟨b2, b4, hBS⟩
  obtain ⟨p0, p1, p2, p3, p4, p5, _, _, _, _, _, _, _⟩ := b4.g6
  obtain ⟨_, _, _, _, _, _, f0, f1, f2, f3, f4, f5, z2⟩ := b2.g6
  refine wp_region_any (by kernel_rfl) ?_
  try (change wpAny _ _ _ _ _ _ _ (World.drew _))
  replace b2 := b2.drew
  replace b4 := b4.drew
  replace hBS := hBS.drew
  first | refine tkU 1 ?_ | refine tkV 1 ?_
  try go_simp
  first | refine tkU 2 ?_ | refine tkV 2 ?_
  try go_simp
  first | refine tkU 3 ?_ | refine tkV 3 ?_
  try go_simp
  first | refine tkU 4 ?_ | refine tkV 4 ?_
  try go_simp
  first | refine tkU 5 ?_ | refine tkV 5 ?_
  try go_simp
  first | refine tkU 6 ?_ | refine tkV 6 ?_
  try go_simp
  first | refine tkU 7 ?_ | refine tkV 7 ?_
  try go_simp
  first | refine tkU 8 ?_ | refine tkV 8 ?_
  try go_simp
  refine wpAny_ready (rs := [0, 9]) (by kernel_rfl) (by simp) ?_
  refine AllReady.cons rfl (fun K hK => ?_) ?_
  ·
   go_simp
   refine hK _ _ ?_; clear hK K
   refine rdyA 9 (fun K hK => ?_)
   go_simp
   refine hK _ _ ?_; clear hK K
   refine rdyA 10 (fun K hK => ?_)
   refine step_wB1 rfl rfl Tryz.func117 nmFiR bdFiR rfl (HF.out _) ?_
   intro w5 hC5
   replace b2 := b2.call hC5
   replace b4 := b4.call hC5
   replace hBS := hBS.trans (hC5.mono hBS.size)
   obtain ⟨p0, p1, p2, p3, p4, p5, _, _, _, _, _, _, _⟩ := b4.g6
   obtain ⟨_, _, _, _, _, _, f0, f1, f2, f3, f4, f5, z2⟩ := b2.g6
   try go_simp
   refine hK _ _ ?_; clear hK K
   first | refine tkU 11 ?_ | refine tkV 11 ?_
   try go_simp
   refine rdyA 12 (fun K hK => ?_)
   go_simp
   refine hK _ _ ?_; clear hK K
   refine rdyA 13 (fun K hK => ?_)
   go_simp
   refine hK _ _ ?_; clear hK K
   refine wpAny_done (by kernel_rfl) ?_ _
   go_wp2
   refine any_world (R := bodyPost _ _ _ _ _) (fun w' => Blk w' w.heap.size 24 #[.string ⟨#[]⟩, .string ⟨#[]⟩, .int .i64 n, .string C, .slice none 0 0, .string ⟨#[]⟩] ∧ Below w.heap.size w w') ⟨b2.put6, below_put6 hBS (ρ _)⟩ ?_
   rintro wF ⟨bF, hBF⟩
   obtain ⟨r0, r1, r2, r3, r4, r5, _⟩ := bF.g6
   refine bodyPost_ret (v := .tuple #[.agg #[.string ⟨#[]⟩, .string ⟨#[]⟩, .int .i64 n, .string C, .slice none 0 0, .string ⟨#[]⟩], .bool f]) (by simp [results, Tryz.results54, go_sem, r0, r1, r2, r3, r4, r5]) rfl ?_
   exact ⟨_, (by simp [he, hb]), hBF, rfl⟩
  refine AllReady.cons rfl (fun K hK => ?_) ?_
  ·
   go_simp
   refine hK _ _ ?_; clear hK K
   refine wpAny_ready (rs := [0, 10]) (by kernel_rfl) (by simp) ?_
   refine AllReady.cons rfl (fun K hK => ?_) ?_
   ·
    go_simp
    refine hK _ _ ?_; clear hK K
    refine rdyA 10 (fun K hK => ?_)
    refine step_wB1 rfl rfl Tryz.func117 nmFiR bdFiR rfl (HF.out _) ?_
    intro w5 hC5
    replace b2 := b2.call hC5
    replace b4 := b4.call hC5
    replace hBS := hBS.trans (hC5.mono hBS.size)
    obtain ⟨p0, p1, p2, p3, p4, p5, _, _, _, _, _, _, _⟩ := b4.g6
    obtain ⟨_, _, _, _, _, _, f0, f1, f2, f3, f4, f5, z2⟩ := b2.g6
    try go_simp
    refine hK _ _ ?_; clear hK K
    first | refine tkU 11 ?_ | refine tkV 11 ?_
    try go_simp
    refine rdyA 12 (fun K hK => ?_)
    go_simp
    refine hK _ _ ?_; clear hK K
    refine rdyA 13 (fun K hK => ?_)
    go_simp
    refine hK _ _ ?_; clear hK K
    refine wpAny_done (by kernel_rfl) ?_ _
    go_wp2
    refine any_world (R := bodyPost _ _ _ _ _) (fun w' => Blk w' w.heap.size 24 #[.string ⟨#[]⟩, .string ⟨#[]⟩, .int .i64 n, .string C, .slice none 0 0, .string ⟨#[]⟩] ∧ Below w.heap.size w w') ⟨b2.put6, below_put6 hBS (ρ _)⟩ ?_
    rintro wF ⟨bF, hBF⟩
    obtain ⟨r0, r1, r2, r3, r4, r5, _⟩ := bF.g6
    refine bodyPost_ret (v := .tuple #[.agg #[.string ⟨#[]⟩, .string ⟨#[]⟩, .int .i64 n, .string C, .slice none 0 0, .string ⟨#[]⟩], .bool f]) (by simp [results, Tryz.results54, go_sem, r0, r1, r2, r3, r4, r5]) rfl ?_
    exact ⟨_, (by simp [he, hb]), hBF, rfl⟩
   refine AllReady.cons rfl (fun K hK => ?_) ?_
   ·
    refine step_wB1 rfl rfl Tryz.func117 nmFiR bdFiR rfl (HF.out _) ?_
    intro w5 hC5
    replace b2 := b2.call hC5
    replace b4 := b4.call hC5
    replace hBS := hBS.trans (hC5.mono hBS.size)
    obtain ⟨p0, p1, p2, p3, p4, p5, _, _, _, _, _, _, _⟩ := b4.g6
    obtain ⟨_, _, _, _, _, _, f0, f1, f2, f3, f4, f5, z2⟩ := b2.g6
    try go_simp
    refine hK _ _ ?_; clear hK K
    first | refine tkU 11 ?_ | refine tkV 11 ?_
    try go_simp
    refine rdyA 0 (fun K hK => ?_)
    go_simp
    refine hK _ _ ?_; clear hK K
    refine rdyA 12 (fun K hK => ?_)
    go_simp
    refine hK _ _ ?_; clear hK K
    refine rdyA 13 (fun K hK => ?_)
    go_simp
    refine hK _ _ ?_; clear hK K
    refine wpAny_done (by kernel_rfl) ?_ _
    go_wp2
    refine any_world (R := bodyPost _ _ _ _ _) (fun w' => Blk w' w.heap.size 24 #[.string ⟨#[]⟩, .string ⟨#[]⟩, .int .i64 n, .string C, .slice none 0 0, .string ⟨#[]⟩] ∧ Below w.heap.size w w') ⟨b2.put6, below_put6 hBS (ρ _)⟩ ?_
    rintro wF ⟨bF, hBF⟩
    obtain ⟨r0, r1, r2, r3, r4, r5, _⟩ := bF.g6
    refine bodyPost_ret (v := .tuple #[.agg #[.string ⟨#[]⟩, .string ⟨#[]⟩, .int .i64 n, .string C, .slice none 0 0, .string ⟨#[]⟩], .bool f]) (by simp [results, Tryz.results54, go_sem, r0, r1, r2, r3, r4, r5]) rfl ?_
    exact ⟨_, (by simp [he, hb]), hBF, rfl⟩
   exact AllReady.nil
  exact AllReady.nil
end Go.Proofs.YtgkilllbkljibaaGreatDoor
