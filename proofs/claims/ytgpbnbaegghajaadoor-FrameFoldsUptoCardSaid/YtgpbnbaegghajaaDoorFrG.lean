/-
  frame.start: what a first line says.
-/
import Derived.Test.YtgpbnbaegghajaaDoorFrE
namespace Go.Proofs.YtgpbnbaegghajaaDoor
open Go.RowKit

/-- a message as a value -/
def mgv (m : Mg) (u : Value) : Value := .agg #[sv m.method, sv m.target, .int .i64 m.status, sv m.reason, u, sv m.body]
theorem Blk.g6 {w : World} {g : Nat} {t : TypeId} {a b c d e f : Value} (h : Blk w g t #[a, b, c, d, e, f]) :
    w.cell? ⟨g, 0, none⟩ = some a ∧ w.cell? ⟨g, 1, none⟩ = some b ∧ w.cell? ⟨g, 2, none⟩ = some c ∧ w.cell? ⟨g, 3, none⟩ = some d ∧ w.cell? ⟨g, 4, none⟩ = some e ∧ w.cell? ⟨g, 5, none⟩ = some f ∧
    w.frozen? ⟨g, 0, none⟩ = false ∧ w.frozen? ⟨g, 1, none⟩ = false ∧ w.frozen? ⟨g, 2, none⟩ = false ∧ w.frozen? ⟨g, 3, none⟩ = false ∧ w.frozen? ⟨g, 4, none⟩ = false ∧ w.frozen? ⟨g, 5, none⟩ = false ∧ g < w.heap.size :=
  ⟨boxedCell h 0, boxedCell h 1, boxedCell h 2, boxedCell h 3, boxedCell h 4, boxedCell h 5, boxedFree h 0, boxedFree h 1, boxedFree h 2, boxedFree h 3, boxedFree h 4, boxedFree h 5, h.lt⟩
/-- six stores that lay a block anew -/
theorem Blk.put6 {w : World} {g : Nat} {t : TypeId} {a b c d e f a' b' c' d' e' f' : Value} (h : Blk w g t #[a, b, c, d, e, f]) :
    Blk ((((((w.setCell ⟨g, 0, none⟩ a').setCell ⟨g, 1, none⟩ b').setCell ⟨g, 2, none⟩ c').setCell ⟨g, 3, none⟩ d').setCell ⟨g, 4, none⟩ e').setCell ⟨g, 5, none⟩ f') g t #[a', b', c', d', e', f'] :=
  (((((h.set_ 0 a').set_ 1 b').set_ 2 c').set_ 3 d').set_ 4 e').set_ 5 f'
theorem below_put6 {w0 w : World} {B g : Nat} {a' b' c' d' e' f' : Value} (h : Below B w0 w) (hg : B ≤ g) :
    Below B w0 ((((((w.setCell ⟨g, 0, none⟩ a').setCell ⟨g, 1, none⟩ b').setCell ⟨g, 2, none⟩ c').setCell ⟨g, 3, none⟩ d').setCell ⟨g, 4, none⟩ e').setCell ⟨g, 5, none⟩ f') :=
  (((((h.setCell hg _).setCell hg _).setCell hg _).setCell hg _).setCell hg _).setCell hg _
theorem any_world {R : World → Prop} {W : World} (F : World → Prop) (hF : F W) (h : ∀ w', F w' → R w') : R W := h W hF
theorem nmFi : (Tryd.f50.name == "runtime.NumGoroutine") = false := by kernel_rfl
theorem bdFi : Tryd.f50.body.isNone = false := by kernel_rfl
theorem nmSm : (Tryd.f43.name == "runtime.NumGoroutine") = false := by kernel_rfl
theorem bdSm : Tryd.f43.body.isNone = false := by kernel_rfl

theorem Blk.drew {w : World} {g : Nat} {t : TypeId} {cs : Array Value} (h : Blk w g t cs) : Blk w.drew g t cs := h
set_option maxRecDepth 100000 in
set_option maxHeartbeats 12800000 in
/-- the branch of a response -/
theorem start_res (s A R B C : ByteArray) (o1 o2 : Bool) (n e : Int) (hC : C.size ≤ 4294967280) (w : World) (hm : Ml w)
    (H1 : ∀ wx, Ml wx → Calls Tryd.prog 27 #[.string s, .string ⟨#[32]⟩] wx fun e w' => e = .returned (.tuple #[.string A, .string R, .bool o1]) ∧ Drn wx w')
    (H2 : ∀ wx, Ml wx → Calls Tryd.prog 27 #[.string R, .string ⟨#[32]⟩] wx fun e w' => e = .returned (.tuple #[.string B, .string C, .bool o2]) ∧ Drn wx w')
    (H3 : ∀ wx, Calls Tryd.prog 43 #[.string A, .string ⟨#[83, 73, 80, 47, 50, 46, 48]⟩] wx fun e w' => e = .returned (.bool true) ∧ Drn wx w')
    (H4 : ∀ wx, Calls Tryd.prog 33 #[.string B, .int .i64 699] wx fun x w' => x = .returned (.tuple #[.int .i64 n, .int .i64 e]) ∧ wx = w') :
    Calls Tryd.prog 26 #[.string s] w fun x w' => ∃ v, x = .returned (.tuple #[v, .bool (o1 && o2 && (e == 0) && decide (B.size = 3) && firstS ⟨[], [], n, us C, [], []⟩)]) ∧ Below w.heap.size w w' ∧
      v = .agg #[.string ⟨#[]⟩, .string ⟨#[]⟩, .int .i64 n, .string C, .slice none 0 0, .string ⟨#[]⟩] := by
  have HM := Lib.hid hm
  have H1' := Lib.hid H1
  have H2' := Lib.hid H2
  have H3' := Lib.hid H3
  have H4' := Lib.hid H4
  clear hm H1 H2 H3 H4
  have HF := Lib.hid (fun wx => first_c ⟨#[]⟩ ⟨#[]⟩ C ⟨#[]⟩ n (.slice none 0 0) [] (Nat.zero_le _) (Nat.zero_le _) hC wx)
  have hfe : firstS ⟨us ⟨#[]⟩, us ⟨#[]⟩, n, us C, [], us ⟨#[]⟩⟩ = firstS ⟨[], [], n, us C, [], []⟩ := rfl
  rw [hfe] at HF
  obtain ⟨f, hf⟩ : ∃ f, f = firstS ⟨[], [], n, us C, [], []⟩ := ⟨_, rfl⟩
  rw [← hf] at HF ⊢
  clear hf hfe
  have b2 : Blk ((w.alloc (.cells #[.string ⟨#[]⟩, .string ⟨#[]⟩, .int .i64 0, .string ⟨#[]⟩, .slice none 0 0, .string ⟨#[]⟩] 25)).alloc (.cells #[.string ⟨#[]⟩, .string ⟨#[]⟩, .int .i64 0, .string ⟨#[]⟩, .slice none 0 0, .string ⟨#[]⟩] 25)) w.heap.size 25 #[.string ⟨#[]⟩, .string ⟨#[]⟩, .int .i64 0, .string ⟨#[]⟩, .slice none 0 0, .string ⟨#[]⟩] := (Blk.new _ _ _).alloc _
  have b4 : Blk ((w.alloc (.cells #[.string ⟨#[]⟩, .string ⟨#[]⟩, .int .i64 0, .string ⟨#[]⟩, .slice none 0 0, .string ⟨#[]⟩] 25)).alloc (.cells #[.string ⟨#[]⟩, .string ⟨#[]⟩, .int .i64 0, .string ⟨#[]⟩, .slice none 0 0, .string ⟨#[]⟩] 25)) (w.heap.size + 1) 25 #[.string ⟨#[]⟩, .string ⟨#[]⟩, .int .i64 0, .string ⟨#[]⟩, .slice none 0 0, .string ⟨#[]⟩] := by have := Blk.new (w.alloc (.cells #[.string ⟨#[]⟩, .string ⟨#[]⟩, .int .i64 0, .string ⟨#[]⟩, .slice none 0 0, .string ⟨#[]⟩] 25)) 25 #[.string ⟨#[]⟩, .string ⟨#[]⟩, .int .i64 0, .string ⟨#[]⟩, .slice none 0 0, .string ⟨#[]⟩]; rw [World.size_alloc] at this; exact this
  have hBS : Below w.heap.size w ((w.alloc (.cells #[.string ⟨#[]⟩, .string ⟨#[]⟩, .int .i64 0, .string ⟨#[]⟩, .slice none 0 0, .string ⟨#[]⟩] 25)).alloc (.cells #[.string ⟨#[]⟩, .string ⟨#[]⟩, .int .i64 0, .string ⟨#[]⟩, .slice none 0 0, .string ⟨#[]⟩] 25)) := ((Below.refl _ _).alloc (Nat.le_refl _) _).alloc (by simp) _
  have HX := Lib.hid (fun (wx : World) (h : Drn ((w.alloc (.cells #[.string ⟨#[]⟩, .string ⟨#[]⟩, .int .i64 0, .string ⟨#[]⟩, .slice none 0 0, .string ⟨#[]⟩] 25)).alloc (.cells #[.string ⟨#[]⟩, .string ⟨#[]⟩, .int .i64 0, .string ⟨#[]⟩, .slice none 0 0, .string ⟨#[]⟩] 25)) wx) => (⟨b2.call h.below, b4.call h.below, hBS.trans h.below⟩ : Blk wx w.heap.size 25 #[.string ⟨#[]⟩, .string ⟨#[]⟩, .int .i64 0, .string ⟨#[]⟩, .slice none 0 0, .string ⟨#[]⟩] ∧ Blk wx (w.heap.size + 1) 25 #[.string ⟨#[]⟩, .string ⟨#[]⟩, .int .i64 0, .string ⟨#[]⟩, .slice none 0 0, .string ⟨#[]⟩] ∧ Below w.heap.size w wx))
  have HM0 := Lib.hid (HM.out.below hBS)
  clear b2 b4 hBS
  have hcase : o1 = false ∨ (o1 = true ∧ o2 = false) ∨ (o1 = true ∧ o2 = true ∧ (e == 0) = false) ∨ (o1 = true ∧ o2 = true ∧ (e == 0) = true ∧ ((B.size : Int) == 3) = false) ∨ (o1 = true ∧ o2 = true ∧ (e == 0) = true ∧ ((B.size : Int) == 3) = true) := by
    cases o1 <;> cases o2 <;> cases (e == 0) <;> cases ((B.size : Int) == 3) <;> simp
  have hdec : decide (B.size = 3) = ((B.size : Int) == 3) := by rw [Bool.eq_iff_iff]; simp; omega
  rw [hdec]
  clear hdec
  rcases hcase with rfl | ⟨rfl, rfl⟩ | ⟨rfl, rfl, he⟩ | ⟨rfl, rfl, he, hb⟩ | ⟨rfl, rfl, he, hb⟩
  · go_enter Tryd.func26, Tryd.ntmps26
    go_wp2_with (first | (go_at_call 27; ((with_reducible refine (H1'.out _ HM0.out).mono ?_); rintro x w1 ⟨rfl, hD1⟩); have hM1 := HM0.out.below hD1.below) | (go_at_call 27; ((with_reducible refine (H2'.out _ hM1).mono ?_); rintro x w2 ⟨rfl, hD2⟩)) | (go_at_call 43; refine (H3'.out _).mono ?_; rintro x w3 ⟨rfl, hD3⟩; obtain ⟨b2, b4, hBS⟩ := HX.out w3 ((hD1.trans hD2).trans hD3); obtain ⟨_, _, _, _, _, _, _, _, _, _, _, _, _⟩ := b4.g6) | (go_at_call 33; refine (H4'.out _).mono ?_; rintro x w4 ⟨rfl, rfl⟩))
    refine any_world (R := Code.wp _ _ _ _) (fun w' => Blk w' w.heap.size 25 #[.string ⟨#[]⟩, .string ⟨#[]⟩, .int .i64 0, .string ⟨#[]⟩, .slice none 0 0, .string ⟨#[]⟩] ∧ Blk w' (w.heap.size + 1) 25 #[.string ⟨#[]⟩, .string ⟨#[]⟩, .int .i64 n, .string C, .slice none 0 0, .string ⟨#[]⟩] ∧ Below w.heap.size w w') ⟨(b2.far (by simp) _).far (by simp) _, (b4.set_ 2 _).set_ 3 _, (hBS.setCell (by simp) _).setCell (by simp) _⟩ ?_
    clear b2 b4 hBS
    rintro wS ⟨b2, b4, hBS⟩
    obtain ⟨p0, p1, p2, p3, p4, p5, _, _, _, _, _, _, _⟩ := b4.g6
    obtain ⟨_, _, _, _, _, _, f0, f1, f2, f3, f4, f5, z2⟩ := b2.g6
    refine wp_region_any (by kernel_rfl) ?_
    try (change wpAny _ _ _ _ _ _ _ (World.drew _))
    first | (refine wpAny_take (i := 1) (v := undef) rfl (by kernel_rfl) (by kernel_rfl) (by kernel_rfl) (fun _ _ _ h => h) (Or.inr ⟨by rfl, rfl⟩) ?_) | (refine wpAny_take (i := 1) (v := ?_) rfl (by kernel_rfl) (by kernel_rfl) (by kernel_rfl) (fun _ _ _ h => h) ?_ ?_; rotate_left; focus (refine Or.inl ⟨by rfl, ?_⟩; intro _; go_simp; first | done | with_reducible rfl))
    try go_simp
    first | (refine wpAny_take (i := 2) (v := undef) rfl (by kernel_rfl) (by kernel_rfl) (by kernel_rfl) (fun _ _ _ h => h) (Or.inr ⟨by rfl, rfl⟩) ?_) | (refine wpAny_take (i := 2) (v := ?_) rfl (by kernel_rfl) (by kernel_rfl) (by kernel_rfl) (fun _ _ _ h => h) ?_ ?_; rotate_left; focus (refine Or.inl ⟨by rfl, ?_⟩; intro _; go_simp; first | done | with_reducible rfl))
    try go_simp
    first | (refine wpAny_take (i := 3) (v := undef) rfl (by kernel_rfl) (by kernel_rfl) (by kernel_rfl) (fun _ _ _ h => h) (Or.inr ⟨by rfl, rfl⟩) ?_) | (refine wpAny_take (i := 3) (v := ?_) rfl (by kernel_rfl) (by kernel_rfl) (by kernel_rfl) (fun _ _ _ h => h) ?_ ?_; rotate_left; focus (refine Or.inl ⟨by rfl, ?_⟩; intro _; go_simp; first | done | with_reducible rfl))
    try go_simp
    first | (refine wpAny_take (i := 4) (v := undef) rfl (by kernel_rfl) (by kernel_rfl) (by kernel_rfl) (fun _ _ _ h => h) (Or.inr ⟨by rfl, rfl⟩) ?_) | (refine wpAny_take (i := 4) (v := ?_) rfl (by kernel_rfl) (by kernel_rfl) (by kernel_rfl) (fun _ _ _ h => h) ?_ ?_; rotate_left; focus (refine Or.inl ⟨by rfl, ?_⟩; intro _; go_simp; first | done | with_reducible rfl))
    try go_simp
    first | (refine wpAny_take (i := 5) (v := undef) rfl (by kernel_rfl) (by kernel_rfl) (by kernel_rfl) (fun _ _ _ h => h) (Or.inr ⟨by rfl, rfl⟩) ?_) | (refine wpAny_take (i := 5) (v := ?_) rfl (by kernel_rfl) (by kernel_rfl) (by kernel_rfl) (fun _ _ _ h => h) ?_ ?_; rotate_left; focus (refine Or.inl ⟨by rfl, ?_⟩; intro _; go_simp; first | done | with_reducible rfl))
    try go_simp
    first | (refine wpAny_take (i := 6) (v := undef) rfl (by kernel_rfl) (by kernel_rfl) (by kernel_rfl) (fun _ _ _ h => h) (Or.inr ⟨by rfl, rfl⟩) ?_) | (refine wpAny_take (i := 6) (v := ?_) rfl (by kernel_rfl) (by kernel_rfl) (by kernel_rfl) (fun _ _ _ h => h) ?_ ?_; rotate_left; focus (refine Or.inl ⟨by rfl, ?_⟩; intro _; go_simp; first | done | with_reducible rfl))
    try go_simp
    first | (refine wpAny_take (i := 7) (v := undef) rfl (by kernel_rfl) (by kernel_rfl) (by kernel_rfl) (fun _ _ _ h => h) (Or.inr ⟨by rfl, rfl⟩) ?_) | (refine wpAny_take (i := 7) (v := ?_) rfl (by kernel_rfl) (by kernel_rfl) (by kernel_rfl) (fun _ _ _ h => h) ?_ ?_; rotate_left; focus (refine Or.inl ⟨by rfl, ?_⟩; intro _; go_simp; first | done | with_reducible rfl))
    try go_simp
    first | (refine wpAny_take (i := 8) (v := undef) rfl (by kernel_rfl) (by kernel_rfl) (by kernel_rfl) (fun _ _ _ h => h) (Or.inr ⟨by rfl, rfl⟩) ?_) | (refine wpAny_take (i := 8) (v := ?_) rfl (by kernel_rfl) (by kernel_rfl) (by kernel_rfl) (fun _ _ _ h => h) ?_ ?_; rotate_left; focus (refine Or.inl ⟨by rfl, ?_⟩; intro _; go_simp; first | done | with_reducible rfl))
    try go_simp
    first | (refine wpAny_take (i := 9) (v := undef) rfl (by kernel_rfl) (by kernel_rfl) (by kernel_rfl) (fun _ _ _ h => h) (Or.inr ⟨by rfl, rfl⟩) ?_) | (refine wpAny_take (i := 9) (v := ?_) rfl (by kernel_rfl) (by kernel_rfl) (by kernel_rfl) (fun _ _ _ h => h) ?_ ?_; rotate_left; focus (refine Or.inl ⟨by rfl, ?_⟩; intro _; go_simp; first | done | with_reducible rfl))
    try go_simp
    first | (refine wpAny_take (i := 10) (v := undef) rfl (by kernel_rfl) (by kernel_rfl) (by kernel_rfl) (fun _ _ _ h => h) (Or.inr ⟨by rfl, rfl⟩) ?_) | (refine wpAny_take (i := 10) (v := ?_) rfl (by kernel_rfl) (by kernel_rfl) (by kernel_rfl) (fun _ _ _ h => h) ?_ ?_; rotate_left; focus (refine Or.inl ⟨by rfl, ?_⟩; intro _; go_simp; first | done | with_reducible rfl))
    try go_simp
    first | (refine wpAny_take (i := 11) (v := undef) rfl (by kernel_rfl) (by kernel_rfl) (by kernel_rfl) (fun _ _ _ h => h) (Or.inr ⟨by rfl, rfl⟩) ?_) | (refine wpAny_take (i := 11) (v := ?_) rfl (by kernel_rfl) (by kernel_rfl) (by kernel_rfl) (fun _ _ _ h => h) ?_ ?_; rotate_left; focus (refine Or.inl ⟨by rfl, ?_⟩; intro _; go_simp; first | done | with_reducible rfl))
    try go_simp
    first | (refine wpAny_take (i := 12) (v := undef) rfl (by kernel_rfl) (by kernel_rfl) (by kernel_rfl) (fun _ _ _ h => h) (Or.inr ⟨by rfl, rfl⟩) ?_) | (refine wpAny_take (i := 12) (v := ?_) rfl (by kernel_rfl) (by kernel_rfl) (by kernel_rfl) (fun _ _ _ h => h) ?_ ?_; rotate_left; focus (refine Or.inl ⟨by rfl, ?_⟩; intro _; go_simp; first | done | with_reducible rfl))
    try go_simp
    first | (refine wpAny_take (i := 13) (v := undef) rfl (by kernel_rfl) (by kernel_rfl) (by kernel_rfl) (fun _ _ _ h => h) (Or.inr ⟨by rfl, rfl⟩) ?_) | (refine wpAny_take (i := 13) (v := ?_) rfl (by kernel_rfl) (by kernel_rfl) (by kernel_rfl) (fun _ _ _ h => h) ?_ ?_; rotate_left; focus (refine Or.inl ⟨by rfl, ?_⟩; intro _; go_simp; first | done | with_reducible rfl))
    try go_simp
    first | (refine wpAny_take (i := 14) (v := undef) rfl (by kernel_rfl) (by kernel_rfl) (by kernel_rfl) (fun _ _ _ h => h) (Or.inr ⟨by rfl, rfl⟩) ?_) | (refine wpAny_take (i := 14) (v := ?_) rfl (by kernel_rfl) (by kernel_rfl) (by kernel_rfl) (fun _ _ _ h => h) ?_ ?_; rotate_left; focus (refine Or.inl ⟨by rfl, ?_⟩; intro _; go_simp; first | done | with_reducible rfl))
    try go_simp
    first | (refine wpAny_take (i := 15) (v := undef) rfl (by kernel_rfl) (by kernel_rfl) (by kernel_rfl) (fun _ _ _ h => h) (Or.inr ⟨by rfl, rfl⟩) ?_) | (refine wpAny_take (i := 15) (v := ?_) rfl (by kernel_rfl) (by kernel_rfl) (by kernel_rfl) (fun _ _ _ h => h) ?_ ?_; rotate_left; focus (refine Or.inl ⟨by rfl, ?_⟩; intro _; go_simp; first | done | with_reducible rfl))
    try go_simp
    first | (refine wpAny_take (i := 16) (v := undef) rfl (by kernel_rfl) (by kernel_rfl) (by kernel_rfl) (fun _ _ _ h => h) (Or.inr ⟨by rfl, rfl⟩) ?_) | (refine wpAny_take (i := 16) (v := ?_) rfl (by kernel_rfl) (by kernel_rfl) (by kernel_rfl) (fun _ _ _ h => h) ?_ ?_; rotate_left; focus (refine Or.inl ⟨by rfl, ?_⟩; intro _; go_simp; first | done | with_reducible rfl))
    try go_simp
    first | (refine wpAny_take (i := 17) (v := undef) rfl (by kernel_rfl) (by kernel_rfl) (by kernel_rfl) (fun _ _ _ h => h) (Or.inr ⟨by rfl, rfl⟩) ?_) | (refine wpAny_take (i := 17) (v := ?_) rfl (by kernel_rfl) (by kernel_rfl) (by kernel_rfl) (fun _ _ _ h => h) ?_ ?_; rotate_left; focus (refine Or.inl ⟨by rfl, ?_⟩; intro _; go_simp; first | done | with_reducible rfl))
    try go_simp
    refine wpAny_ready (rs := [0]) (by kernel_rfl) (by simp) ?_
    refine AllReady.cons rfl (fun K hK => ?_) AllReady.nil
    go_simp
    refine hK _ _ ?_; clear hK K
    refine wpAny_ready (rs := [18]) (by kernel_rfl) (by simp) ?_
    refine AllReady.cons rfl (fun K hK => ?_) AllReady.nil
    go_simp
    refine hK _ _ ?_; clear hK K
    refine wpAny_ready (rs := [19]) (by kernel_rfl) (by simp) ?_
    refine AllReady.cons rfl (fun K hK => ?_) AllReady.nil
    go_simp
    refine hK _ _ ?_; clear hK K
    refine wpAny_done (by kernel_rfl) ?_ _
    go_wp2
    refine any_world (R := bodyPost _ _ _ _ _) (fun w' => Blk w' w.heap.size 25 #[.string ⟨#[]⟩, .string ⟨#[]⟩, .int .i64 n, .string C, .slice none 0 0, .string ⟨#[]⟩] ∧ Below w.heap.size w w') ⟨b2.put6.drew, (below_put6 hBS (Nat.le_refl _)).drew⟩ ?_
    rintro wF ⟨bF, hBF⟩
    obtain ⟨r0, r1, r2, r3, r4, r5, _⟩ := bF.g6
    refine bodyPost_ret (v := .tuple #[.agg #[.string ⟨#[]⟩, .string ⟨#[]⟩, .int .i64 n, .string C, .slice none 0 0, .string ⟨#[]⟩], .bool false]) (by simp [results, Tryd.results26, go_sem, r0, r1, r2, r3, r4, r5]) rfl ?_
    exact ⟨_, (by simp []), hBF, rfl⟩
  · go_enter Tryd.func26, Tryd.ntmps26
    go_wp2_with (first | (go_at_call 27; ((with_reducible refine (H1'.out _ HM0.out).mono ?_); rintro x w1 ⟨rfl, hD1⟩); have hM1 := HM0.out.below hD1.below) | (go_at_call 27; ((with_reducible refine (H2'.out _ hM1).mono ?_); rintro x w2 ⟨rfl, hD2⟩)) | (go_at_call 43; refine (H3'.out _).mono ?_; rintro x w3 ⟨rfl, hD3⟩; obtain ⟨b2, b4, hBS⟩ := HX.out w3 ((hD1.trans hD2).trans hD3); obtain ⟨_, _, _, _, _, _, _, _, _, _, _, _, _⟩ := b4.g6) | (go_at_call 33; refine (H4'.out _).mono ?_; rintro x w4 ⟨rfl, rfl⟩))
    refine any_world (R := Code.wp _ _ _ _) (fun w' => Blk w' w.heap.size 25 #[.string ⟨#[]⟩, .string ⟨#[]⟩, .int .i64 0, .string ⟨#[]⟩, .slice none 0 0, .string ⟨#[]⟩] ∧ Blk w' (w.heap.size + 1) 25 #[.string ⟨#[]⟩, .string ⟨#[]⟩, .int .i64 n, .string C, .slice none 0 0, .string ⟨#[]⟩] ∧ Below w.heap.size w w') ⟨(b2.far (by simp) _).far (by simp) _, (b4.set_ 2 _).set_ 3 _, (hBS.setCell (by simp) _).setCell (by simp) _⟩ ?_
    clear b2 b4 hBS
    rintro wS ⟨b2, b4, hBS⟩
    obtain ⟨p0, p1, p2, p3, p4, p5, _, _, _, _, _, _, _⟩ := b4.g6
    obtain ⟨_, _, _, _, _, _, f0, f1, f2, f3, f4, f5, z2⟩ := b2.g6
    refine wp_region_any (by kernel_rfl) ?_
    try (change wpAny _ _ _ _ _ _ _ (World.drew _))
    first | (refine wpAny_take (i := 1) (v := undef) rfl (by kernel_rfl) (by kernel_rfl) (by kernel_rfl) (fun _ _ _ h => h) (Or.inr ⟨by rfl, rfl⟩) ?_) | (refine wpAny_take (i := 1) (v := ?_) rfl (by kernel_rfl) (by kernel_rfl) (by kernel_rfl) (fun _ _ _ h => h) ?_ ?_; rotate_left; focus (refine Or.inl ⟨by rfl, ?_⟩; intro _; go_simp; first | done | with_reducible rfl))
    try go_simp
    first | (refine wpAny_take (i := 2) (v := undef) rfl (by kernel_rfl) (by kernel_rfl) (by kernel_rfl) (fun _ _ _ h => h) (Or.inr ⟨by rfl, rfl⟩) ?_) | (refine wpAny_take (i := 2) (v := ?_) rfl (by kernel_rfl) (by kernel_rfl) (by kernel_rfl) (fun _ _ _ h => h) ?_ ?_; rotate_left; focus (refine Or.inl ⟨by rfl, ?_⟩; intro _; go_simp; first | done | with_reducible rfl))
    try go_simp
    first | (refine wpAny_take (i := 3) (v := undef) rfl (by kernel_rfl) (by kernel_rfl) (by kernel_rfl) (fun _ _ _ h => h) (Or.inr ⟨by rfl, rfl⟩) ?_) | (refine wpAny_take (i := 3) (v := ?_) rfl (by kernel_rfl) (by kernel_rfl) (by kernel_rfl) (fun _ _ _ h => h) ?_ ?_; rotate_left; focus (refine Or.inl ⟨by rfl, ?_⟩; intro _; go_simp; first | done | with_reducible rfl))
    try go_simp
    first | (refine wpAny_take (i := 4) (v := undef) rfl (by kernel_rfl) (by kernel_rfl) (by kernel_rfl) (fun _ _ _ h => h) (Or.inr ⟨by rfl, rfl⟩) ?_) | (refine wpAny_take (i := 4) (v := ?_) rfl (by kernel_rfl) (by kernel_rfl) (by kernel_rfl) (fun _ _ _ h => h) ?_ ?_; rotate_left; focus (refine Or.inl ⟨by rfl, ?_⟩; intro _; go_simp; first | done | with_reducible rfl))
    try go_simp
    first | (refine wpAny_take (i := 5) (v := undef) rfl (by kernel_rfl) (by kernel_rfl) (by kernel_rfl) (fun _ _ _ h => h) (Or.inr ⟨by rfl, rfl⟩) ?_) | (refine wpAny_take (i := 5) (v := ?_) rfl (by kernel_rfl) (by kernel_rfl) (by kernel_rfl) (fun _ _ _ h => h) ?_ ?_; rotate_left; focus (refine Or.inl ⟨by rfl, ?_⟩; intro _; go_simp; first | done | with_reducible rfl))
    try go_simp
    first | (refine wpAny_take (i := 6) (v := undef) rfl (by kernel_rfl) (by kernel_rfl) (by kernel_rfl) (fun _ _ _ h => h) (Or.inr ⟨by rfl, rfl⟩) ?_) | (refine wpAny_take (i := 6) (v := ?_) rfl (by kernel_rfl) (by kernel_rfl) (by kernel_rfl) (fun _ _ _ h => h) ?_ ?_; rotate_left; focus (refine Or.inl ⟨by rfl, ?_⟩; intro _; go_simp; first | done | with_reducible rfl))
    try go_simp
    first | (refine wpAny_take (i := 7) (v := undef) rfl (by kernel_rfl) (by kernel_rfl) (by kernel_rfl) (fun _ _ _ h => h) (Or.inr ⟨by rfl, rfl⟩) ?_) | (refine wpAny_take (i := 7) (v := ?_) rfl (by kernel_rfl) (by kernel_rfl) (by kernel_rfl) (fun _ _ _ h => h) ?_ ?_; rotate_left; focus (refine Or.inl ⟨by rfl, ?_⟩; intro _; go_simp; first | done | with_reducible rfl))
    try go_simp
    first | (refine wpAny_take (i := 8) (v := undef) rfl (by kernel_rfl) (by kernel_rfl) (by kernel_rfl) (fun _ _ _ h => h) (Or.inr ⟨by rfl, rfl⟩) ?_) | (refine wpAny_take (i := 8) (v := ?_) rfl (by kernel_rfl) (by kernel_rfl) (by kernel_rfl) (fun _ _ _ h => h) ?_ ?_; rotate_left; focus (refine Or.inl ⟨by rfl, ?_⟩; intro _; go_simp; first | done | with_reducible rfl))
    try go_simp
    first | (refine wpAny_take (i := 9) (v := undef) rfl (by kernel_rfl) (by kernel_rfl) (by kernel_rfl) (fun _ _ _ h => h) (Or.inr ⟨by rfl, rfl⟩) ?_) | (refine wpAny_take (i := 9) (v := ?_) rfl (by kernel_rfl) (by kernel_rfl) (by kernel_rfl) (fun _ _ _ h => h) ?_ ?_; rotate_left; focus (refine Or.inl ⟨by rfl, ?_⟩; intro _; go_simp; first | done | with_reducible rfl))
    try go_simp
    first | (refine wpAny_take (i := 10) (v := undef) rfl (by kernel_rfl) (by kernel_rfl) (by kernel_rfl) (fun _ _ _ h => h) (Or.inr ⟨by rfl, rfl⟩) ?_) | (refine wpAny_take (i := 10) (v := ?_) rfl (by kernel_rfl) (by kernel_rfl) (by kernel_rfl) (fun _ _ _ h => h) ?_ ?_; rotate_left; focus (refine Or.inl ⟨by rfl, ?_⟩; intro _; go_simp; first | done | with_reducible rfl))
    try go_simp
    first | (refine wpAny_take (i := 11) (v := undef) rfl (by kernel_rfl) (by kernel_rfl) (by kernel_rfl) (fun _ _ _ h => h) (Or.inr ⟨by rfl, rfl⟩) ?_) | (refine wpAny_take (i := 11) (v := ?_) rfl (by kernel_rfl) (by kernel_rfl) (by kernel_rfl) (fun _ _ _ h => h) ?_ ?_; rotate_left; focus (refine Or.inl ⟨by rfl, ?_⟩; intro _; go_simp; first | done | with_reducible rfl))
    try go_simp
    first | (refine wpAny_take (i := 12) (v := undef) rfl (by kernel_rfl) (by kernel_rfl) (by kernel_rfl) (fun _ _ _ h => h) (Or.inr ⟨by rfl, rfl⟩) ?_) | (refine wpAny_take (i := 12) (v := ?_) rfl (by kernel_rfl) (by kernel_rfl) (by kernel_rfl) (fun _ _ _ h => h) ?_ ?_; rotate_left; focus (refine Or.inl ⟨by rfl, ?_⟩; intro _; go_simp; first | done | with_reducible rfl))
    try go_simp
    first | (refine wpAny_take (i := 13) (v := undef) rfl (by kernel_rfl) (by kernel_rfl) (by kernel_rfl) (fun _ _ _ h => h) (Or.inr ⟨by rfl, rfl⟩) ?_) | (refine wpAny_take (i := 13) (v := ?_) rfl (by kernel_rfl) (by kernel_rfl) (by kernel_rfl) (fun _ _ _ h => h) ?_ ?_; rotate_left; focus (refine Or.inl ⟨by rfl, ?_⟩; intro _; go_simp; first | done | with_reducible rfl))
    try go_simp
    first | (refine wpAny_take (i := 14) (v := undef) rfl (by kernel_rfl) (by kernel_rfl) (by kernel_rfl) (fun _ _ _ h => h) (Or.inr ⟨by rfl, rfl⟩) ?_) | (refine wpAny_take (i := 14) (v := ?_) rfl (by kernel_rfl) (by kernel_rfl) (by kernel_rfl) (fun _ _ _ h => h) ?_ ?_; rotate_left; focus (refine Or.inl ⟨by rfl, ?_⟩; intro _; go_simp; first | done | with_reducible rfl))
    try go_simp
    first | (refine wpAny_take (i := 15) (v := undef) rfl (by kernel_rfl) (by kernel_rfl) (by kernel_rfl) (fun _ _ _ h => h) (Or.inr ⟨by rfl, rfl⟩) ?_) | (refine wpAny_take (i := 15) (v := ?_) rfl (by kernel_rfl) (by kernel_rfl) (by kernel_rfl) (fun _ _ _ h => h) ?_ ?_; rotate_left; focus (refine Or.inl ⟨by rfl, ?_⟩; intro _; go_simp; first | done | with_reducible rfl))
    try go_simp
    first | (refine wpAny_take (i := 16) (v := undef) rfl (by kernel_rfl) (by kernel_rfl) (by kernel_rfl) (fun _ _ _ h => h) (Or.inr ⟨by rfl, rfl⟩) ?_) | (refine wpAny_take (i := 16) (v := ?_) rfl (by kernel_rfl) (by kernel_rfl) (by kernel_rfl) (fun _ _ _ h => h) ?_ ?_; rotate_left; focus (refine Or.inl ⟨by rfl, ?_⟩; intro _; go_simp; first | done | with_reducible rfl))
    try go_simp
    first | (refine wpAny_take (i := 17) (v := undef) rfl (by kernel_rfl) (by kernel_rfl) (by kernel_rfl) (fun _ _ _ h => h) (Or.inr ⟨by rfl, rfl⟩) ?_) | (refine wpAny_take (i := 17) (v := ?_) rfl (by kernel_rfl) (by kernel_rfl) (by kernel_rfl) (fun _ _ _ h => h) ?_ ?_; rotate_left; focus (refine Or.inl ⟨by rfl, ?_⟩; intro _; go_simp; first | done | with_reducible rfl))
    try go_simp
    refine wpAny_ready (rs := [0]) (by kernel_rfl) (by simp) ?_
    refine AllReady.cons rfl (fun K hK => ?_) AllReady.nil
    go_simp
    refine hK _ _ ?_; clear hK K
    refine wpAny_ready (rs := [18]) (by kernel_rfl) (by simp) ?_
    refine AllReady.cons rfl (fun K hK => ?_) AllReady.nil
    go_simp
    refine hK _ _ ?_; clear hK K
    refine wpAny_ready (rs := [19]) (by kernel_rfl) (by simp) ?_
    refine AllReady.cons rfl (fun K hK => ?_) AllReady.nil
    go_simp
    refine hK _ _ ?_; clear hK K
    refine wpAny_done (by kernel_rfl) ?_ _
    go_wp2
    refine any_world (R := bodyPost _ _ _ _ _) (fun w' => Blk w' w.heap.size 25 #[.string ⟨#[]⟩, .string ⟨#[]⟩, .int .i64 n, .string C, .slice none 0 0, .string ⟨#[]⟩] ∧ Below w.heap.size w w') ⟨b2.put6.drew, (below_put6 hBS (Nat.le_refl _)).drew⟩ ?_
    rintro wF ⟨bF, hBF⟩
    obtain ⟨r0, r1, r2, r3, r4, r5, _⟩ := bF.g6
    refine bodyPost_ret (v := .tuple #[.agg #[.string ⟨#[]⟩, .string ⟨#[]⟩, .int .i64 n, .string C, .slice none 0 0, .string ⟨#[]⟩], .bool false]) (by simp [results, Tryd.results26, go_sem, r0, r1, r2, r3, r4, r5]) rfl ?_
    exact ⟨_, (by simp []), hBF, rfl⟩
  · go_enter Tryd.func26, Tryd.ntmps26
    go_wp2_with (first | (go_at_call 27; ((with_reducible refine (H1'.out _ HM0.out).mono ?_); rintro x w1 ⟨rfl, hD1⟩); have hM1 := HM0.out.below hD1.below) | (go_at_call 27; ((with_reducible refine (H2'.out _ hM1).mono ?_); rintro x w2 ⟨rfl, hD2⟩)) | (go_at_call 43; refine (H3'.out _).mono ?_; rintro x w3 ⟨rfl, hD3⟩; obtain ⟨b2, b4, hBS⟩ := HX.out w3 ((hD1.trans hD2).trans hD3); obtain ⟨_, _, _, _, _, _, _, _, _, _, _, _, _⟩ := b4.g6) | (go_at_call 33; refine (H4'.out _).mono ?_; rintro x w4 ⟨rfl, rfl⟩))
    refine any_world (R := Code.wp _ _ _ _) (fun w' => Blk w' w.heap.size 25 #[.string ⟨#[]⟩, .string ⟨#[]⟩, .int .i64 0, .string ⟨#[]⟩, .slice none 0 0, .string ⟨#[]⟩] ∧ Blk w' (w.heap.size + 1) 25 #[.string ⟨#[]⟩, .string ⟨#[]⟩, .int .i64 n, .string C, .slice none 0 0, .string ⟨#[]⟩] ∧ Below w.heap.size w w') ⟨(b2.far (by simp) _).far (by simp) _, (b4.set_ 2 _).set_ 3 _, (hBS.setCell (by simp) _).setCell (by simp) _⟩ ?_
    clear b2 b4 hBS
    rintro wS ⟨b2, b4, hBS⟩
    obtain ⟨p0, p1, p2, p3, p4, p5, _, _, _, _, _, _, _⟩ := b4.g6
    obtain ⟨_, _, _, _, _, _, f0, f1, f2, f3, f4, f5, z2⟩ := b2.g6
    refine wp_region_any (by kernel_rfl) ?_
    try (change wpAny _ _ _ _ _ _ _ (World.drew _))
    first | (refine wpAny_take (i := 1) (v := undef) rfl (by kernel_rfl) (by kernel_rfl) (by kernel_rfl) (fun _ _ _ h => h) (Or.inr ⟨by rfl, rfl⟩) ?_) | (refine wpAny_take (i := 1) (v := ?_) rfl (by kernel_rfl) (by kernel_rfl) (by kernel_rfl) (fun _ _ _ h => h) ?_ ?_; rotate_left; focus (refine Or.inl ⟨by rfl, ?_⟩; intro _; go_simp; first | done | with_reducible rfl))
    try go_simp
    first | (refine wpAny_take (i := 2) (v := undef) rfl (by kernel_rfl) (by kernel_rfl) (by kernel_rfl) (fun _ _ _ h => h) (Or.inr ⟨by rfl, rfl⟩) ?_) | (refine wpAny_take (i := 2) (v := ?_) rfl (by kernel_rfl) (by kernel_rfl) (by kernel_rfl) (fun _ _ _ h => h) ?_ ?_; rotate_left; focus (refine Or.inl ⟨by rfl, ?_⟩; intro _; go_simp; first | done | with_reducible rfl))
    try go_simp
    first | (refine wpAny_take (i := 3) (v := undef) rfl (by kernel_rfl) (by kernel_rfl) (by kernel_rfl) (fun _ _ _ h => h) (Or.inr ⟨by rfl, rfl⟩) ?_) | (refine wpAny_take (i := 3) (v := ?_) rfl (by kernel_rfl) (by kernel_rfl) (by kernel_rfl) (fun _ _ _ h => h) ?_ ?_; rotate_left; focus (refine Or.inl ⟨by rfl, ?_⟩; intro _; go_simp; first | done | with_reducible rfl))
    try go_simp
    first | (refine wpAny_take (i := 4) (v := undef) rfl (by kernel_rfl) (by kernel_rfl) (by kernel_rfl) (fun _ _ _ h => h) (Or.inr ⟨by rfl, rfl⟩) ?_) | (refine wpAny_take (i := 4) (v := ?_) rfl (by kernel_rfl) (by kernel_rfl) (by kernel_rfl) (fun _ _ _ h => h) ?_ ?_; rotate_left; focus (refine Or.inl ⟨by rfl, ?_⟩; intro _; go_simp; first | done | with_reducible rfl))
    try go_simp
    first | (refine wpAny_take (i := 5) (v := undef) rfl (by kernel_rfl) (by kernel_rfl) (by kernel_rfl) (fun _ _ _ h => h) (Or.inr ⟨by rfl, rfl⟩) ?_) | (refine wpAny_take (i := 5) (v := ?_) rfl (by kernel_rfl) (by kernel_rfl) (by kernel_rfl) (fun _ _ _ h => h) ?_ ?_; rotate_left; focus (refine Or.inl ⟨by rfl, ?_⟩; intro _; go_simp; first | done | with_reducible rfl))
    try go_simp
    first | (refine wpAny_take (i := 6) (v := undef) rfl (by kernel_rfl) (by kernel_rfl) (by kernel_rfl) (fun _ _ _ h => h) (Or.inr ⟨by rfl, rfl⟩) ?_) | (refine wpAny_take (i := 6) (v := ?_) rfl (by kernel_rfl) (by kernel_rfl) (by kernel_rfl) (fun _ _ _ h => h) ?_ ?_; rotate_left; focus (refine Or.inl ⟨by rfl, ?_⟩; intro _; go_simp; first | done | with_reducible rfl))
    try go_simp
    first | (refine wpAny_take (i := 7) (v := undef) rfl (by kernel_rfl) (by kernel_rfl) (by kernel_rfl) (fun _ _ _ h => h) (Or.inr ⟨by rfl, rfl⟩) ?_) | (refine wpAny_take (i := 7) (v := ?_) rfl (by kernel_rfl) (by kernel_rfl) (by kernel_rfl) (fun _ _ _ h => h) ?_ ?_; rotate_left; focus (refine Or.inl ⟨by rfl, ?_⟩; intro _; go_simp; first | done | with_reducible rfl))
    try go_simp
    first | (refine wpAny_take (i := 8) (v := undef) rfl (by kernel_rfl) (by kernel_rfl) (by kernel_rfl) (fun _ _ _ h => h) (Or.inr ⟨by rfl, rfl⟩) ?_) | (refine wpAny_take (i := 8) (v := ?_) rfl (by kernel_rfl) (by kernel_rfl) (by kernel_rfl) (fun _ _ _ h => h) ?_ ?_; rotate_left; focus (refine Or.inl ⟨by rfl, ?_⟩; intro _; go_simp; first | done | with_reducible rfl))
    try go_simp
    first | (refine wpAny_take (i := 9) (v := undef) rfl (by kernel_rfl) (by kernel_rfl) (by kernel_rfl) (fun _ _ _ h => h) (Or.inr ⟨by rfl, rfl⟩) ?_) | (refine wpAny_take (i := 9) (v := ?_) rfl (by kernel_rfl) (by kernel_rfl) (by kernel_rfl) (fun _ _ _ h => h) ?_ ?_; rotate_left; focus (refine Or.inl ⟨by rfl, ?_⟩; intro _; go_simp; first | done | with_reducible rfl))
    try go_simp
    first | (refine wpAny_take (i := 10) (v := undef) rfl (by kernel_rfl) (by kernel_rfl) (by kernel_rfl) (fun _ _ _ h => h) (Or.inr ⟨by rfl, rfl⟩) ?_) | (refine wpAny_take (i := 10) (v := ?_) rfl (by kernel_rfl) (by kernel_rfl) (by kernel_rfl) (fun _ _ _ h => h) ?_ ?_; rotate_left; focus (refine Or.inl ⟨by rfl, ?_⟩; intro _; go_simp; first | done | with_reducible rfl))
    try go_simp
    first | (refine wpAny_take (i := 11) (v := undef) rfl (by kernel_rfl) (by kernel_rfl) (by kernel_rfl) (fun _ _ _ h => h) (Or.inr ⟨by rfl, rfl⟩) ?_) | (refine wpAny_take (i := 11) (v := ?_) rfl (by kernel_rfl) (by kernel_rfl) (by kernel_rfl) (fun _ _ _ h => h) ?_ ?_; rotate_left; focus (refine Or.inl ⟨by rfl, ?_⟩; intro _; go_simp; first | done | with_reducible rfl))
    try go_simp
    first | (refine wpAny_take (i := 12) (v := undef) rfl (by kernel_rfl) (by kernel_rfl) (by kernel_rfl) (fun _ _ _ h => h) (Or.inr ⟨by rfl, rfl⟩) ?_) | (refine wpAny_take (i := 12) (v := ?_) rfl (by kernel_rfl) (by kernel_rfl) (by kernel_rfl) (fun _ _ _ h => h) ?_ ?_; rotate_left; focus (refine Or.inl ⟨by rfl, ?_⟩; intro _; go_simp; first | done | with_reducible rfl))
    try go_simp
    first | (refine wpAny_take (i := 13) (v := undef) rfl (by kernel_rfl) (by kernel_rfl) (by kernel_rfl) (fun _ _ _ h => h) (Or.inr ⟨by rfl, rfl⟩) ?_) | (refine wpAny_take (i := 13) (v := ?_) rfl (by kernel_rfl) (by kernel_rfl) (by kernel_rfl) (fun _ _ _ h => h) ?_ ?_; rotate_left; focus (refine Or.inl ⟨by rfl, ?_⟩; intro _; go_simp; first | done | with_reducible rfl))
    try go_simp
    first | (refine wpAny_take (i := 14) (v := undef) rfl (by kernel_rfl) (by kernel_rfl) (by kernel_rfl) (fun _ _ _ h => h) (Or.inr ⟨by rfl, rfl⟩) ?_) | (refine wpAny_take (i := 14) (v := ?_) rfl (by kernel_rfl) (by kernel_rfl) (by kernel_rfl) (fun _ _ _ h => h) ?_ ?_; rotate_left; focus (refine Or.inl ⟨by rfl, ?_⟩; intro _; go_simp; first | done | with_reducible rfl))
    try go_simp
    first | (refine wpAny_take (i := 15) (v := undef) rfl (by kernel_rfl) (by kernel_rfl) (by kernel_rfl) (fun _ _ _ h => h) (Or.inr ⟨by rfl, rfl⟩) ?_) | (refine wpAny_take (i := 15) (v := ?_) rfl (by kernel_rfl) (by kernel_rfl) (by kernel_rfl) (fun _ _ _ h => h) ?_ ?_; rotate_left; focus (refine Or.inl ⟨by rfl, ?_⟩; intro _; go_simp; first | done | with_reducible rfl))
    try go_simp
    first | (refine wpAny_take (i := 16) (v := undef) rfl (by kernel_rfl) (by kernel_rfl) (by kernel_rfl) (fun _ _ _ h => h) (Or.inr ⟨by rfl, rfl⟩) ?_) | (refine wpAny_take (i := 16) (v := ?_) rfl (by kernel_rfl) (by kernel_rfl) (by kernel_rfl) (fun _ _ _ h => h) ?_ ?_; rotate_left; focus (refine Or.inl ⟨by rfl, ?_⟩; intro _; go_simp; first | done | with_reducible rfl))
    try go_simp
    first | (refine wpAny_take (i := 17) (v := undef) rfl (by kernel_rfl) (by kernel_rfl) (by kernel_rfl) (fun _ _ _ h => h) (Or.inr ⟨by rfl, rfl⟩) ?_) | (refine wpAny_take (i := 17) (v := ?_) rfl (by kernel_rfl) (by kernel_rfl) (by kernel_rfl) (fun _ _ _ h => h) ?_ ?_; rotate_left; focus (refine Or.inl ⟨by rfl, ?_⟩; intro _; go_simp; first | done | with_reducible rfl))
    try go_simp
    refine wpAny_ready (rs := [0]) (by kernel_rfl) (by simp) ?_
    refine AllReady.cons rfl (fun K hK => ?_) AllReady.nil
    go_simp
    refine hK _ _ ?_; clear hK K
    refine wpAny_ready (rs := [18]) (by kernel_rfl) (by simp) ?_
    refine AllReady.cons rfl (fun K hK => ?_) AllReady.nil
    go_simp
    refine hK _ _ ?_; clear hK K
    refine wpAny_ready (rs := [19]) (by kernel_rfl) (by simp) ?_
    refine AllReady.cons rfl (fun K hK => ?_) AllReady.nil
    go_simp
    refine hK _ _ ?_; clear hK K
    refine wpAny_done (by kernel_rfl) ?_ _
    go_wp2
    refine any_world (R := bodyPost _ _ _ _ _) (fun w' => Blk w' w.heap.size 25 #[.string ⟨#[]⟩, .string ⟨#[]⟩, .int .i64 n, .string C, .slice none 0 0, .string ⟨#[]⟩] ∧ Below w.heap.size w w') ⟨b2.put6.drew, (below_put6 hBS (Nat.le_refl _)).drew⟩ ?_
    rintro wF ⟨bF, hBF⟩
    obtain ⟨r0, r1, r2, r3, r4, r5, _⟩ := bF.g6
    refine bodyPost_ret (v := .tuple #[.agg #[.string ⟨#[]⟩, .string ⟨#[]⟩, .int .i64 n, .string C, .slice none 0 0, .string ⟨#[]⟩], .bool false]) (by simp [results, Tryd.results26, go_sem, r0, r1, r2, r3, r4, r5]) rfl ?_
    exact ⟨_, (by simp [he]), hBF, rfl⟩
  · go_enter Tryd.func26, Tryd.ntmps26
    go_wp2_with (first | (go_at_call 27; ((with_reducible refine (H1'.out _ HM0.out).mono ?_); rintro x w1 ⟨rfl, hD1⟩); have hM1 := HM0.out.below hD1.below) | (go_at_call 27; ((with_reducible refine (H2'.out _ hM1).mono ?_); rintro x w2 ⟨rfl, hD2⟩)) | (go_at_call 43; refine (H3'.out _).mono ?_; rintro x w3 ⟨rfl, hD3⟩; obtain ⟨b2, b4, hBS⟩ := HX.out w3 ((hD1.trans hD2).trans hD3); obtain ⟨_, _, _, _, _, _, _, _, _, _, _, _, _⟩ := b4.g6) | (go_at_call 33; refine (H4'.out _).mono ?_; rintro x w4 ⟨rfl, rfl⟩))
    refine any_world (R := Code.wp _ _ _ _) (fun w' => Blk w' w.heap.size 25 #[.string ⟨#[]⟩, .string ⟨#[]⟩, .int .i64 0, .string ⟨#[]⟩, .slice none 0 0, .string ⟨#[]⟩] ∧ Blk w' (w.heap.size + 1) 25 #[.string ⟨#[]⟩, .string ⟨#[]⟩, .int .i64 n, .string C, .slice none 0 0, .string ⟨#[]⟩] ∧ Below w.heap.size w w') ⟨(b2.far (by simp) _).far (by simp) _, (b4.set_ 2 _).set_ 3 _, (hBS.setCell (by simp) _).setCell (by simp) _⟩ ?_
    clear b2 b4 hBS
    rintro wS ⟨b2, b4, hBS⟩
    obtain ⟨p0, p1, p2, p3, p4, p5, _, _, _, _, _, _, _⟩ := b4.g6
    obtain ⟨_, _, _, _, _, _, f0, f1, f2, f3, f4, f5, z2⟩ := b2.g6
    refine wp_region_any (by kernel_rfl) ?_
    try (change wpAny _ _ _ _ _ _ _ (World.drew _))
    first | (refine wpAny_take (i := 1) (v := undef) rfl (by kernel_rfl) (by kernel_rfl) (by kernel_rfl) (fun _ _ _ h => h) (Or.inr ⟨by rfl, rfl⟩) ?_) | (refine wpAny_take (i := 1) (v := ?_) rfl (by kernel_rfl) (by kernel_rfl) (by kernel_rfl) (fun _ _ _ h => h) ?_ ?_; rotate_left; focus (refine Or.inl ⟨by rfl, ?_⟩; intro _; go_simp; first | done | with_reducible rfl))
    try go_simp
    first | (refine wpAny_take (i := 2) (v := undef) rfl (by kernel_rfl) (by kernel_rfl) (by kernel_rfl) (fun _ _ _ h => h) (Or.inr ⟨by rfl, rfl⟩) ?_) | (refine wpAny_take (i := 2) (v := ?_) rfl (by kernel_rfl) (by kernel_rfl) (by kernel_rfl) (fun _ _ _ h => h) ?_ ?_; rotate_left; focus (refine Or.inl ⟨by rfl, ?_⟩; intro _; go_simp; first | done | with_reducible rfl))
    try go_simp
    first | (refine wpAny_take (i := 3) (v := undef) rfl (by kernel_rfl) (by kernel_rfl) (by kernel_rfl) (fun _ _ _ h => h) (Or.inr ⟨by rfl, rfl⟩) ?_) | (refine wpAny_take (i := 3) (v := ?_) rfl (by kernel_rfl) (by kernel_rfl) (by kernel_rfl) (fun _ _ _ h => h) ?_ ?_; rotate_left; focus (refine Or.inl ⟨by rfl, ?_⟩; intro _; go_simp; first | done | with_reducible rfl))
    try go_simp
    first | (refine wpAny_take (i := 4) (v := undef) rfl (by kernel_rfl) (by kernel_rfl) (by kernel_rfl) (fun _ _ _ h => h) (Or.inr ⟨by rfl, rfl⟩) ?_) | (refine wpAny_take (i := 4) (v := ?_) rfl (by kernel_rfl) (by kernel_rfl) (by kernel_rfl) (fun _ _ _ h => h) ?_ ?_; rotate_left; focus (refine Or.inl ⟨by rfl, ?_⟩; intro _; go_simp; first | done | with_reducible rfl))
    try go_simp
    first | (refine wpAny_take (i := 5) (v := undef) rfl (by kernel_rfl) (by kernel_rfl) (by kernel_rfl) (fun _ _ _ h => h) (Or.inr ⟨by rfl, rfl⟩) ?_) | (refine wpAny_take (i := 5) (v := ?_) rfl (by kernel_rfl) (by kernel_rfl) (by kernel_rfl) (fun _ _ _ h => h) ?_ ?_; rotate_left; focus (refine Or.inl ⟨by rfl, ?_⟩; intro _; go_simp; first | done | with_reducible rfl))
    try go_simp
    first | (refine wpAny_take (i := 6) (v := undef) rfl (by kernel_rfl) (by kernel_rfl) (by kernel_rfl) (fun _ _ _ h => h) (Or.inr ⟨by rfl, rfl⟩) ?_) | (refine wpAny_take (i := 6) (v := ?_) rfl (by kernel_rfl) (by kernel_rfl) (by kernel_rfl) (fun _ _ _ h => h) ?_ ?_; rotate_left; focus (refine Or.inl ⟨by rfl, ?_⟩; intro _; go_simp; first | done | with_reducible rfl))
    try go_simp
    first | (refine wpAny_take (i := 7) (v := undef) rfl (by kernel_rfl) (by kernel_rfl) (by kernel_rfl) (fun _ _ _ h => h) (Or.inr ⟨by rfl, rfl⟩) ?_) | (refine wpAny_take (i := 7) (v := ?_) rfl (by kernel_rfl) (by kernel_rfl) (by kernel_rfl) (fun _ _ _ h => h) ?_ ?_; rotate_left; focus (refine Or.inl ⟨by rfl, ?_⟩; intro _; go_simp; first | done | with_reducible rfl))
    try go_simp
    first | (refine wpAny_take (i := 8) (v := undef) rfl (by kernel_rfl) (by kernel_rfl) (by kernel_rfl) (fun _ _ _ h => h) (Or.inr ⟨by rfl, rfl⟩) ?_) | (refine wpAny_take (i := 8) (v := ?_) rfl (by kernel_rfl) (by kernel_rfl) (by kernel_rfl) (fun _ _ _ h => h) ?_ ?_; rotate_left; focus (refine Or.inl ⟨by rfl, ?_⟩; intro _; go_simp; first | done | with_reducible rfl))
    try go_simp
    first | (refine wpAny_take (i := 9) (v := undef) rfl (by kernel_rfl) (by kernel_rfl) (by kernel_rfl) (fun _ _ _ h => h) (Or.inr ⟨by rfl, rfl⟩) ?_) | (refine wpAny_take (i := 9) (v := ?_) rfl (by kernel_rfl) (by kernel_rfl) (by kernel_rfl) (fun _ _ _ h => h) ?_ ?_; rotate_left; focus (refine Or.inl ⟨by rfl, ?_⟩; intro _; go_simp; first | done | with_reducible rfl))
    try go_simp
    first | (refine wpAny_take (i := 10) (v := undef) rfl (by kernel_rfl) (by kernel_rfl) (by kernel_rfl) (fun _ _ _ h => h) (Or.inr ⟨by rfl, rfl⟩) ?_) | (refine wpAny_take (i := 10) (v := ?_) rfl (by kernel_rfl) (by kernel_rfl) (by kernel_rfl) (fun _ _ _ h => h) ?_ ?_; rotate_left; focus (refine Or.inl ⟨by rfl, ?_⟩; intro _; go_simp; first | done | with_reducible rfl))
    try go_simp
    first | (refine wpAny_take (i := 11) (v := undef) rfl (by kernel_rfl) (by kernel_rfl) (by kernel_rfl) (fun _ _ _ h => h) (Or.inr ⟨by rfl, rfl⟩) ?_) | (refine wpAny_take (i := 11) (v := ?_) rfl (by kernel_rfl) (by kernel_rfl) (by kernel_rfl) (fun _ _ _ h => h) ?_ ?_; rotate_left; focus (refine Or.inl ⟨by rfl, ?_⟩; intro _; go_simp; first | done | with_reducible rfl))
    try go_simp
    first | (refine wpAny_take (i := 12) (v := undef) rfl (by kernel_rfl) (by kernel_rfl) (by kernel_rfl) (fun _ _ _ h => h) (Or.inr ⟨by rfl, rfl⟩) ?_) | (refine wpAny_take (i := 12) (v := ?_) rfl (by kernel_rfl) (by kernel_rfl) (by kernel_rfl) (fun _ _ _ h => h) ?_ ?_; rotate_left; focus (refine Or.inl ⟨by rfl, ?_⟩; intro _; go_simp; first | done | with_reducible rfl))
    try go_simp
    first | (refine wpAny_take (i := 13) (v := undef) rfl (by kernel_rfl) (by kernel_rfl) (by kernel_rfl) (fun _ _ _ h => h) (Or.inr ⟨by rfl, rfl⟩) ?_) | (refine wpAny_take (i := 13) (v := ?_) rfl (by kernel_rfl) (by kernel_rfl) (by kernel_rfl) (fun _ _ _ h => h) ?_ ?_; rotate_left; focus (refine Or.inl ⟨by rfl, ?_⟩; intro _; go_simp; first | done | with_reducible rfl))
    try go_simp
    first | (refine wpAny_take (i := 14) (v := undef) rfl (by kernel_rfl) (by kernel_rfl) (by kernel_rfl) (fun _ _ _ h => h) (Or.inr ⟨by rfl, rfl⟩) ?_) | (refine wpAny_take (i := 14) (v := ?_) rfl (by kernel_rfl) (by kernel_rfl) (by kernel_rfl) (fun _ _ _ h => h) ?_ ?_; rotate_left; focus (refine Or.inl ⟨by rfl, ?_⟩; intro _; go_simp; first | done | with_reducible rfl))
    try go_simp
    first | (refine wpAny_take (i := 15) (v := undef) rfl (by kernel_rfl) (by kernel_rfl) (by kernel_rfl) (fun _ _ _ h => h) (Or.inr ⟨by rfl, rfl⟩) ?_) | (refine wpAny_take (i := 15) (v := ?_) rfl (by kernel_rfl) (by kernel_rfl) (by kernel_rfl) (fun _ _ _ h => h) ?_ ?_; rotate_left; focus (refine Or.inl ⟨by rfl, ?_⟩; intro _; go_simp; first | done | with_reducible rfl))
    try go_simp
    first | (refine wpAny_take (i := 16) (v := undef) rfl (by kernel_rfl) (by kernel_rfl) (by kernel_rfl) (fun _ _ _ h => h) (Or.inr ⟨by rfl, rfl⟩) ?_) | (refine wpAny_take (i := 16) (v := ?_) rfl (by kernel_rfl) (by kernel_rfl) (by kernel_rfl) (fun _ _ _ h => h) ?_ ?_; rotate_left; focus (refine Or.inl ⟨by rfl, ?_⟩; intro _; go_simp; first | done | with_reducible rfl))
    try go_simp
    first | (refine wpAny_take (i := 17) (v := undef) rfl (by kernel_rfl) (by kernel_rfl) (by kernel_rfl) (fun _ _ _ h => h) (Or.inr ⟨by rfl, rfl⟩) ?_) | (refine wpAny_take (i := 17) (v := ?_) rfl (by kernel_rfl) (by kernel_rfl) (by kernel_rfl) (fun _ _ _ h => h) ?_ ?_; rotate_left; focus (refine Or.inl ⟨by rfl, ?_⟩; intro _; go_simp; first | done | with_reducible rfl))
    try go_simp
    refine wpAny_ready (rs := [0]) (by kernel_rfl) (by simp) ?_
    refine AllReady.cons rfl (fun K hK => ?_) AllReady.nil
    go_simp
    refine hK _ _ ?_; clear hK K
    refine wpAny_ready (rs := [18]) (by kernel_rfl) (by simp) ?_
    refine AllReady.cons rfl (fun K hK => ?_) AllReady.nil
    go_simp
    refine hK _ _ ?_; clear hK K
    refine wpAny_ready (rs := [19]) (by kernel_rfl) (by simp) ?_
    refine AllReady.cons rfl (fun K hK => ?_) AllReady.nil
    go_simp
    refine hK _ _ ?_; clear hK K
    refine wpAny_done (by kernel_rfl) ?_ _
    go_wp2
    refine any_world (R := bodyPost _ _ _ _ _) (fun w' => Blk w' w.heap.size 25 #[.string ⟨#[]⟩, .string ⟨#[]⟩, .int .i64 n, .string C, .slice none 0 0, .string ⟨#[]⟩] ∧ Below w.heap.size w w') ⟨b2.put6.drew, (below_put6 hBS (Nat.le_refl _)).drew⟩ ?_
    rintro wF ⟨bF, hBF⟩
    obtain ⟨r0, r1, r2, r3, r4, r5, _⟩ := bF.g6
    refine bodyPost_ret (v := .tuple #[.agg #[.string ⟨#[]⟩, .string ⟨#[]⟩, .int .i64 n, .string C, .slice none 0 0, .string ⟨#[]⟩], .bool false]) (by simp [results, Tryd.results26, go_sem, r0, r1, r2, r3, r4, r5]) rfl ?_
    exact ⟨_, (by simp [he, hb]), hBF, rfl⟩
  · go_enter Tryd.func26, Tryd.ntmps26
    go_wp2_with (first | (go_at_call 27; ((with_reducible refine (H1'.out _ HM0.out).mono ?_); rintro x w1 ⟨rfl, hD1⟩); have hM1 := HM0.out.below hD1.below) | (go_at_call 27; ((with_reducible refine (H2'.out _ hM1).mono ?_); rintro x w2 ⟨rfl, hD2⟩)) | (go_at_call 43; refine (H3'.out _).mono ?_; rintro x w3 ⟨rfl, hD3⟩; obtain ⟨b2, b4, hBS⟩ := HX.out w3 ((hD1.trans hD2).trans hD3); obtain ⟨_, _, _, _, _, _, _, _, _, _, _, _, _⟩ := b4.g6) | (go_at_call 33; refine (H4'.out _).mono ?_; rintro x w4 ⟨rfl, rfl⟩))
    refine any_world (R := Code.wp _ _ _ _) (fun w' => Blk w' w.heap.size 25 #[.string ⟨#[]⟩, .string ⟨#[]⟩, .int .i64 0, .string ⟨#[]⟩, .slice none 0 0, .string ⟨#[]⟩] ∧ Blk w' (w.heap.size + 1) 25 #[.string ⟨#[]⟩, .string ⟨#[]⟩, .int .i64 n, .string C, .slice none 0 0, .string ⟨#[]⟩] ∧ Below w.heap.size w w') ⟨(b2.far (by simp) _).far (by simp) _, (b4.set_ 2 _).set_ 3 _, (hBS.setCell (by simp) _).setCell (by simp) _⟩ ?_
    clear b2 b4 hBS
    rintro wS ⟨b2, b4, hBS⟩
    obtain ⟨p0, p1, p2, p3, p4, p5, _, _, _, _, _, _, _⟩ := b4.g6
    obtain ⟨_, _, _, _, _, _, f0, f1, f2, f3, f4, f5, z2⟩ := b2.g6
    refine wp_region_any (by kernel_rfl) ?_
    try (change wpAny _ _ _ _ _ _ _ (World.drew _))
    first | (refine wpAny_take (i := 1) (v := undef) rfl (by kernel_rfl) (by kernel_rfl) (by kernel_rfl) (fun _ _ _ h => h) (Or.inr ⟨by rfl, rfl⟩) ?_) | (refine wpAny_take (i := 1) (v := ?_) rfl (by kernel_rfl) (by kernel_rfl) (by kernel_rfl) (fun _ _ _ h => h) ?_ ?_; rotate_left; focus (refine Or.inl ⟨by rfl, ?_⟩; intro _; go_simp; first | done | with_reducible rfl))
    try go_simp
    first | (refine wpAny_take (i := 2) (v := undef) rfl (by kernel_rfl) (by kernel_rfl) (by kernel_rfl) (fun _ _ _ h => h) (Or.inr ⟨by rfl, rfl⟩) ?_) | (refine wpAny_take (i := 2) (v := ?_) rfl (by kernel_rfl) (by kernel_rfl) (by kernel_rfl) (fun _ _ _ h => h) ?_ ?_; rotate_left; focus (refine Or.inl ⟨by rfl, ?_⟩; intro _; go_simp; first | done | with_reducible rfl))
    try go_simp
    first | (refine wpAny_take (i := 3) (v := undef) rfl (by kernel_rfl) (by kernel_rfl) (by kernel_rfl) (fun _ _ _ h => h) (Or.inr ⟨by rfl, rfl⟩) ?_) | (refine wpAny_take (i := 3) (v := ?_) rfl (by kernel_rfl) (by kernel_rfl) (by kernel_rfl) (fun _ _ _ h => h) ?_ ?_; rotate_left; focus (refine Or.inl ⟨by rfl, ?_⟩; intro _; go_simp; first | done | with_reducible rfl))
    try go_simp
    first | (refine wpAny_take (i := 4) (v := undef) rfl (by kernel_rfl) (by kernel_rfl) (by kernel_rfl) (fun _ _ _ h => h) (Or.inr ⟨by rfl, rfl⟩) ?_) | (refine wpAny_take (i := 4) (v := ?_) rfl (by kernel_rfl) (by kernel_rfl) (by kernel_rfl) (fun _ _ _ h => h) ?_ ?_; rotate_left; focus (refine Or.inl ⟨by rfl, ?_⟩; intro _; go_simp; first | done | with_reducible rfl))
    try go_simp
    first | (refine wpAny_take (i := 5) (v := undef) rfl (by kernel_rfl) (by kernel_rfl) (by kernel_rfl) (fun _ _ _ h => h) (Or.inr ⟨by rfl, rfl⟩) ?_) | (refine wpAny_take (i := 5) (v := ?_) rfl (by kernel_rfl) (by kernel_rfl) (by kernel_rfl) (fun _ _ _ h => h) ?_ ?_; rotate_left; focus (refine Or.inl ⟨by rfl, ?_⟩; intro _; go_simp; first | done | with_reducible rfl))
    try go_simp
    first | (refine wpAny_take (i := 6) (v := undef) rfl (by kernel_rfl) (by kernel_rfl) (by kernel_rfl) (fun _ _ _ h => h) (Or.inr ⟨by rfl, rfl⟩) ?_) | (refine wpAny_take (i := 6) (v := ?_) rfl (by kernel_rfl) (by kernel_rfl) (by kernel_rfl) (fun _ _ _ h => h) ?_ ?_; rotate_left; focus (refine Or.inl ⟨by rfl, ?_⟩; intro _; go_simp; first | done | with_reducible rfl))
    try go_simp
    first | (refine wpAny_take (i := 7) (v := undef) rfl (by kernel_rfl) (by kernel_rfl) (by kernel_rfl) (fun _ _ _ h => h) (Or.inr ⟨by rfl, rfl⟩) ?_) | (refine wpAny_take (i := 7) (v := ?_) rfl (by kernel_rfl) (by kernel_rfl) (by kernel_rfl) (fun _ _ _ h => h) ?_ ?_; rotate_left; focus (refine Or.inl ⟨by rfl, ?_⟩; intro _; go_simp; first | done | with_reducible rfl))
    try go_simp
    first | (refine wpAny_take (i := 8) (v := undef) rfl (by kernel_rfl) (by kernel_rfl) (by kernel_rfl) (fun _ _ _ h => h) (Or.inr ⟨by rfl, rfl⟩) ?_) | (refine wpAny_take (i := 8) (v := ?_) rfl (by kernel_rfl) (by kernel_rfl) (by kernel_rfl) (fun _ _ _ h => h) ?_ ?_; rotate_left; focus (refine Or.inl ⟨by rfl, ?_⟩; intro _; go_simp; first | done | with_reducible rfl))
    try go_simp
    first | (refine wpAny_take (i := 9) (v := undef) rfl (by kernel_rfl) (by kernel_rfl) (by kernel_rfl) (fun _ _ _ h => h) (Or.inr ⟨by rfl, rfl⟩) ?_) | (refine wpAny_take (i := 9) (v := ?_) rfl (by kernel_rfl) (by kernel_rfl) (by kernel_rfl) (fun _ _ _ h => h) ?_ ?_; rotate_left; focus (refine Or.inl ⟨by rfl, ?_⟩; intro _; go_simp; first | done | with_reducible rfl))
    try go_simp
    first | (refine wpAny_take (i := 10) (v := undef) rfl (by kernel_rfl) (by kernel_rfl) (by kernel_rfl) (fun _ _ _ h => h) (Or.inr ⟨by rfl, rfl⟩) ?_) | (refine wpAny_take (i := 10) (v := ?_) rfl (by kernel_rfl) (by kernel_rfl) (by kernel_rfl) (fun _ _ _ h => h) ?_ ?_; rotate_left; focus (refine Or.inl ⟨by rfl, ?_⟩; intro _; go_simp; first | done | with_reducible rfl))
    try go_simp
    first | (refine wpAny_take (i := 11) (v := undef) rfl (by kernel_rfl) (by kernel_rfl) (by kernel_rfl) (fun _ _ _ h => h) (Or.inr ⟨by rfl, rfl⟩) ?_) | (refine wpAny_take (i := 11) (v := ?_) rfl (by kernel_rfl) (by kernel_rfl) (by kernel_rfl) (fun _ _ _ h => h) ?_ ?_; rotate_left; focus (refine Or.inl ⟨by rfl, ?_⟩; intro _; go_simp; first | done | with_reducible rfl))
    try go_simp
    first | (refine wpAny_take (i := 12) (v := undef) rfl (by kernel_rfl) (by kernel_rfl) (by kernel_rfl) (fun _ _ _ h => h) (Or.inr ⟨by rfl, rfl⟩) ?_) | (refine wpAny_take (i := 12) (v := ?_) rfl (by kernel_rfl) (by kernel_rfl) (by kernel_rfl) (fun _ _ _ h => h) ?_ ?_; rotate_left; focus (refine Or.inl ⟨by rfl, ?_⟩; intro _; go_simp; first | done | with_reducible rfl))
    try go_simp
    first | (refine wpAny_take (i := 13) (v := undef) rfl (by kernel_rfl) (by kernel_rfl) (by kernel_rfl) (fun _ _ _ h => h) (Or.inr ⟨by rfl, rfl⟩) ?_) | (refine wpAny_take (i := 13) (v := ?_) rfl (by kernel_rfl) (by kernel_rfl) (by kernel_rfl) (fun _ _ _ h => h) ?_ ?_; rotate_left; focus (refine Or.inl ⟨by rfl, ?_⟩; intro _; go_simp; first | done | with_reducible rfl))
    try go_simp
    first | (refine wpAny_take (i := 14) (v := undef) rfl (by kernel_rfl) (by kernel_rfl) (by kernel_rfl) (fun _ _ _ h => h) (Or.inr ⟨by rfl, rfl⟩) ?_) | (refine wpAny_take (i := 14) (v := ?_) rfl (by kernel_rfl) (by kernel_rfl) (by kernel_rfl) (fun _ _ _ h => h) ?_ ?_; rotate_left; focus (refine Or.inl ⟨by rfl, ?_⟩; intro _; go_simp; first | done | with_reducible rfl))
    try go_simp
    refine wpAny_ready (rs := [0, 15]) (by kernel_rfl) (by simp) ?_
    refine AllReady.cons rfl (fun K hK => ?_) ?_
    ·
      go_simp
      refine hK _ _ ?_; clear hK K
      refine wpAny_ready (rs := [15]) (by kernel_rfl) (by simp) ?_
      refine AllReady.cons rfl (fun K hK => ?_) ?_
      ·
        go_simp
        refine hK _ _ ?_; clear hK K
        refine wpAny_ready (rs := [16]) (by kernel_rfl) (by simp) ?_
        refine AllReady.cons rfl (fun K hK => ?_) ?_
        ·
          refine step_wB1 rfl rfl Tryd.func50 nmFi bdFi rfl (HF.out _) ?_
          intro w5 hC5
          have b2 := b2.drew.call hC5
          have b4 := b4.drew.call hC5
          have hBS := hBS.drew.trans (hC5.mono hBS.drew.size)
          obtain ⟨p0, p1, p2, p3, p4, p5, _, _, _, _, _, _, _⟩ := b4.g6
          obtain ⟨_, _, _, _, _, _, f0, f1, f2, f3, f4, f5, z2⟩ := b2.g6
          try go_simp
          refine hK _ _ ?_; clear hK K
          first | (refine wpAny_take (i := 17) (v := undef) rfl (by kernel_rfl) (by kernel_rfl) (by kernel_rfl) (fun _ _ _ h => h) (Or.inr ⟨by rfl, rfl⟩) ?_) | (refine wpAny_take (i := 17) (v := ?_) rfl (by kernel_rfl) (by kernel_rfl) (by kernel_rfl) (fun _ _ _ h => h) ?_ ?_; rotate_left; focus (refine Or.inl ⟨by rfl, ?_⟩; intro _; go_simp; first | done | with_reducible rfl))
          try go_simp
          refine wpAny_ready (rs := [18]) (by kernel_rfl) (by simp) ?_
          refine AllReady.cons rfl (fun K hK => ?_) ?_
          ·
            go_simp
            refine hK _ _ ?_; clear hK K
            refine wpAny_ready (rs := [19]) (by kernel_rfl) (by simp) ?_
            refine AllReady.cons rfl (fun K hK => ?_) ?_
            ·
              go_simp
              refine hK _ _ ?_; clear hK K
              refine wpAny_done (by kernel_rfl) ?_ _
              go_wp2
              refine any_world (R := bodyPost _ _ _ _ _) (fun w' => Blk w' w.heap.size 25 #[.string ⟨#[]⟩, .string ⟨#[]⟩, .int .i64 n, .string C, .slice none 0 0, .string ⟨#[]⟩] ∧ Below w.heap.size w w') ⟨b2.put6, below_put6 hBS (Nat.le_refl _)⟩ ?_
              rintro wF ⟨bF, hBF⟩
              obtain ⟨r0, r1, r2, r3, r4, r5, _⟩ := bF.g6
              refine bodyPost_ret (v := .tuple #[.agg #[.string ⟨#[]⟩, .string ⟨#[]⟩, .int .i64 n, .string C, .slice none 0 0, .string ⟨#[]⟩], .bool f]) (by simp [results, Tryd.results26, go_sem, r0, r1, r2, r3, r4, r5]) rfl ?_
              exact ⟨_, by simp [he, hb], hBF, rfl⟩
            exact AllReady.nil
          exact AllReady.nil
        exact AllReady.nil
      exact AllReady.nil
    refine AllReady.cons rfl (fun K hK => ?_) ?_
    ·
      go_simp
      refine hK _ _ ?_; clear hK K
      refine wpAny_ready (rs := [0, 16]) (by kernel_rfl) (by simp) ?_
      refine AllReady.cons rfl (fun K hK => ?_) ?_
      ·
        go_simp
        refine hK _ _ ?_; clear hK K
        refine wpAny_ready (rs := [16]) (by kernel_rfl) (by simp) ?_
        refine AllReady.cons rfl (fun K hK => ?_) ?_
        ·
          refine step_wB1 rfl rfl Tryd.func50 nmFi bdFi rfl (HF.out _) ?_
          intro w5 hC5
          have b2 := b2.drew.call hC5
          have b4 := b4.drew.call hC5
          have hBS := hBS.drew.trans (hC5.mono hBS.drew.size)
          obtain ⟨p0, p1, p2, p3, p4, p5, _, _, _, _, _, _, _⟩ := b4.g6
          obtain ⟨_, _, _, _, _, _, f0, f1, f2, f3, f4, f5, z2⟩ := b2.g6
          try go_simp
          refine hK _ _ ?_; clear hK K
          first | (refine wpAny_take (i := 17) (v := undef) rfl (by kernel_rfl) (by kernel_rfl) (by kernel_rfl) (fun _ _ _ h => h) (Or.inr ⟨by rfl, rfl⟩) ?_) | (refine wpAny_take (i := 17) (v := ?_) rfl (by kernel_rfl) (by kernel_rfl) (by kernel_rfl) (fun _ _ _ h => h) ?_ ?_; rotate_left; focus (refine Or.inl ⟨by rfl, ?_⟩; intro _; go_simp; first | done | with_reducible rfl))
          try go_simp
          refine wpAny_ready (rs := [18]) (by kernel_rfl) (by simp) ?_
          refine AllReady.cons rfl (fun K hK => ?_) ?_
          ·
            go_simp
            refine hK _ _ ?_; clear hK K
            refine wpAny_ready (rs := [19]) (by kernel_rfl) (by simp) ?_
            refine AllReady.cons rfl (fun K hK => ?_) ?_
            ·
              go_simp
              refine hK _ _ ?_; clear hK K
              refine wpAny_done (by kernel_rfl) ?_ _
              go_wp2
              refine any_world (R := bodyPost _ _ _ _ _) (fun w' => Blk w' w.heap.size 25 #[.string ⟨#[]⟩, .string ⟨#[]⟩, .int .i64 n, .string C, .slice none 0 0, .string ⟨#[]⟩] ∧ Below w.heap.size w w') ⟨b2.put6, below_put6 hBS (Nat.le_refl _)⟩ ?_
              rintro wF ⟨bF, hBF⟩
              obtain ⟨r0, r1, r2, r3, r4, r5, _⟩ := bF.g6
              refine bodyPost_ret (v := .tuple #[.agg #[.string ⟨#[]⟩, .string ⟨#[]⟩, .int .i64 n, .string C, .slice none 0 0, .string ⟨#[]⟩], .bool f]) (by simp [results, Tryd.results26, go_sem, r0, r1, r2, r3, r4, r5]) rfl ?_
              exact ⟨_, by simp [he, hb], hBF, rfl⟩
            exact AllReady.nil
          exact AllReady.nil
        exact AllReady.nil
      refine AllReady.cons rfl (fun K hK => ?_) ?_
      ·
        refine step_wB1 rfl rfl Tryd.func50 nmFi bdFi rfl (HF.out _) ?_
        intro w5 hC5
        have b2 := b2.drew.call hC5
        have b4 := b4.drew.call hC5
        have hBS := hBS.drew.trans (hC5.mono hBS.drew.size)
        obtain ⟨p0, p1, p2, p3, p4, p5, _, _, _, _, _, _, _⟩ := b4.g6
        obtain ⟨_, _, _, _, _, _, f0, f1, f2, f3, f4, f5, z2⟩ := b2.g6
        try go_simp
        refine hK _ _ ?_; clear hK K
        first | (refine wpAny_take (i := 17) (v := undef) rfl (by kernel_rfl) (by kernel_rfl) (by kernel_rfl) (fun _ _ _ h => h) (Or.inr ⟨by rfl, rfl⟩) ?_) | (refine wpAny_take (i := 17) (v := ?_) rfl (by kernel_rfl) (by kernel_rfl) (by kernel_rfl) (fun _ _ _ h => h) ?_ ?_; rotate_left; focus (refine Or.inl ⟨by rfl, ?_⟩; intro _; go_simp; first | done | with_reducible rfl))
        try go_simp
        refine wpAny_ready (rs := [0]) (by kernel_rfl) (by simp) ?_
        refine AllReady.cons rfl (fun K hK => ?_) ?_
        ·
          go_simp
          refine hK _ _ ?_; clear hK K
          refine wpAny_ready (rs := [18]) (by kernel_rfl) (by simp) ?_
          refine AllReady.cons rfl (fun K hK => ?_) ?_
          ·
            go_simp
            refine hK _ _ ?_; clear hK K
            refine wpAny_ready (rs := [19]) (by kernel_rfl) (by simp) ?_
            refine AllReady.cons rfl (fun K hK => ?_) ?_
            ·
              go_simp
              refine hK _ _ ?_; clear hK K
              refine wpAny_done (by kernel_rfl) ?_ _
              go_wp2
              refine any_world (R := bodyPost _ _ _ _ _) (fun w' => Blk w' w.heap.size 25 #[.string ⟨#[]⟩, .string ⟨#[]⟩, .int .i64 n, .string C, .slice none 0 0, .string ⟨#[]⟩] ∧ Below w.heap.size w w') ⟨b2.put6, below_put6 hBS (Nat.le_refl _)⟩ ?_
              rintro wF ⟨bF, hBF⟩
              obtain ⟨r0, r1, r2, r3, r4, r5, _⟩ := bF.g6
              refine bodyPost_ret (v := .tuple #[.agg #[.string ⟨#[]⟩, .string ⟨#[]⟩, .int .i64 n, .string C, .slice none 0 0, .string ⟨#[]⟩], .bool f]) (by simp [results, Tryd.results26, go_sem, r0, r1, r2, r3, r4, r5]) rfl ?_
              exact ⟨_, by simp [he, hb], hBF, rfl⟩
            exact AllReady.nil
          exact AllReady.nil
        exact AllReady.nil
      exact AllReady.nil
    exact AllReady.nil

end Go.Proofs.YtgpbnbaegghajaaDoor
