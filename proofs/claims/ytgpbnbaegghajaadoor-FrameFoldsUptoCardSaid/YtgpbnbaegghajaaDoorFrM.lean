/-
  frame.Parse.
-/
import Derived.Test.YtgpbnbaegghajaaDoorHdr
namespace Go.Proofs.YtgpbnbaegghajaaDoor
open Go.RowKit

theorem parseS_long (l : List UInt8) (h : 4096 < l.length) : parseS l = (mg0, 2) := by unfold parseS; rw [if_pos h]
theorem parseS_none (l : List UInt8) (h : ¬ 4096 < l.length) (hh : headGo [] [] l = none) : parseS l = (mg0, 63) := by unfold parseS; rw [if_neg h, hh]
theorem parseS_some (l : List UInt8) (h : ¬ 4096 < l.length) (L : List (List UInt8)) (rest : List UInt8) (hh : headGo [] [] l = some (L, rest)) : parseS l = parse2 L rest := by unfold parseS; rw [if_neg h, hh]
theorem parse2_some (t : List UInt8) (ts : List (List UInt8)) (rest : List UInt8) (m : Mg) (h : startS t = some m) : parse2 (t :: ts) rest = endS m rest (linesS [] (-1) ts) := by unfold parse2; dsimp only; rw [h]
theorem parse2_none (t : List UInt8) (ts : List (List UInt8)) (rest : List UInt8) (h : startS t = none) : parse2 (t :: ts) rest = (mg0, 60) := by unfold parse2; dsimp only; rw [h]
theorem lines_next (ts : List (List UInt8)) (H H' : List Hdr) (z z' : Int) (i : Nat) (h : i < ts.length) (hp : linesS [] (-1) ts = linesS H z (ts.drop i)) (hc : lineS H z ts[i] = ((H', z'), 0)) : linesS [] (-1) ts = linesS H' z' (ts.drop (i + 1)) := by
  rw [hp, List.drop_eq_getElem_cons h, linesS, hc, if_neg (fun h => h rfl)]
theorem lines_bad (ts : List (List UInt8)) (H : List Hdr) (z : Int) (i : Nat) (h : i < ts.length) (m : Mg) (rest : List UInt8) (c : Int) (h0 : c ≠ 0) (hp : linesS [] (-1) ts = linesS H z (ts.drop i)) (hc : (lineS H z ts[i]).2 = c) : endS m rest (linesS [] (-1) ts) = (mg0, c) := by
  rw [hp, List.drop_eq_getElem_cons h, linesS, if_pos (by rw [hc]; exact h0)]
  unfold endS
  rw [hc, if_pos h0]
theorem lines_end (ts : List (List UInt8)) (H : List Hdr) (z : Int) (i : Nat) (h : ts.length ≤ i) (m : Mg) (rest : List UInt8) (hp : linesS [] (-1) ts = linesS H z (ts.drop i)) :
    endS m rest (linesS [] (-1) ts) = if (rest.length : Int) < z then (mg0, 62) else ({ m with hdrs := H, body := bodyS z rest }, 0) := by
  rw [hp, List.drop_eq_nil_iff.2 h, linesS]
  unfold endS
  rw [if_neg (fun h => h rfl)]
theorem line_61 (H : List Hdr) (z : Int) (n v : List UInt8) (is : Bool) (h : is = false ∨ token n = false ∨ visS v = false) : (lineOf H z n v is).2 = 61 := by unfold lineOf; rw [if_pos h]
theorem line_ok (H : List Hdr) (z : Int) (n v : List UInt8) (h1 : token n = true) (h2 : visS v = true) : lineOf H z n v true = if isLen n = false then (if 64 ≤ H.length then ((H, z), 4) else ((H ++ [⟨n, v⟩], z), 0)) else if (number v 4096).2 ≠ 0 ∨ 0 ≤ z then ((H, z), 62) else ((H, (number v 4096).1), 0) := by
  unfold lineOf
  rw [if_neg]
  rintro (h | h | h)
  · cases h
  · rw [h1] at h; cases h
  · rw [h2] at h; cases h
theorem number_bd (l : List UInt8) (most : Int) (h0 : 0 ≤ most) (h : (number l most).2 = 0) : 0 ≤ (number l most).1 ∧ (number l most).1 ≤ most := by
  by_cases hd : l = [] ∨ allc 1 l = false
  · unfold number at h; rw [if_pos hd] at h; exact absurd h (by decide)
  · have hb : l ≠ [] := fun h => hd (.inl h)
    have ha : l.all isDig = true := by
      rw [← allc_dig]
      cases h : allc 1 l
      · exact absurd (.inr h) hd
      · rfl
    rw [number_val most h0 l hb ha] at h ⊢
    split at h
    · rename_i hv
      rw [if_pos hv]
      exact ⟨valF_ge l 0 ha (Int.le_refl _), hv⟩
    · exact absurd h (by decide)

theorem longS_le (l : List UInt8) : (longS l).length ≤ l.length + 16 := by
  by_cases h1 : l.length = 1
  · match l, h1 with
    | [c], _ =>
      have e : longS [c] = (longGo (low c) shorts longs).getD [c] := rfl
      rw [e]
      cases hg : longGo (low c) shorts longs with
      | none => simp
      | some x =>
        have : ∀ (r : List UInt8) (t : List (List UInt8)), (∀ y ∈ t, y.length ≤ 16) → ∀ x, longGo (low c) r t = some x → x.length ≤ 16 := by
          intro r
          induction r with
          | nil => intro t _ x h; simp [longGo] at h
          | cons a r ih =>
            intro t ht x h
            cases t with
            | nil => simp [longGo] at h
            | cons y t =>
              rw [longGo] at h
              by_cases hc : (low c).toNat = a.toNat
              · rw [if_pos hc] at h; injection h with h; rw [← h]; exact ht y (List.mem_cons_self ..)
              · rw [if_neg hc] at h; exact ih t (fun z hz => ht z (List.mem_cons_of_mem _ hz)) x h
        have := this shorts longs (by decide) x hg
        show x.length ≤ _
        omega
  · rw [longS_two _ h1]; omega
theorem RHdrs.put6 {w : World} {B g : Nat} {u : Value} {L : List Hdr} {a b c d e f : Value} (h : RHdrs w u L) (hF : FreshH B u) (hg : g < B) :
    RHdrs ((((((w.setCell ⟨g, 0, none⟩ a).setCell ⟨g, 1, none⟩ b).setCell ⟨g, 2, none⟩ c).setCell ⟨g, 3, none⟩ d).setCell ⟨g, 4, none⟩ e).setCell ⟨g, 5, none⟩ f) u L :=
  (((((h.set hF hg _).set hF hg _).set hF hg _).set hF hg _).set hF hg _).set hF hg _
theorem post_bad {w w' : World} (c : Int) (hB : Below w.heap.size w w') : ParsePost (mg0, c) w (.returned (.tuple #[.agg #[.string ⟨#[]⟩, .string ⟨#[]⟩, .int .i64 0, .string ⟨#[]⟩, .slice none 0 0, .string ⟨#[]⟩], .int .i64 c])) w' :=
  ⟨.slice none 0 0, rfl, RHdrs.nil _, (fun _ _ _ h => by cases h), hB⟩

set_option maxRecDepth 100000 in
set_option maxHeartbeats 12800000 in
theorem parse_c (s : ByteArray) (hs : s.size ≤ 9223372036854775807) (w : World) (hm : Ml w) :
    Calls Tryd.prog 9 #[.string s] w fun e w' => ParsePost (parseS (us s)) w e w' := by
  have HM := Lib.hid hm
  clear hm
  have b0 : Blk (w.alloc (.cells #[.string ⟨#[]⟩, .string ⟨#[]⟩, .int .i64 0, .string ⟨#[]⟩, .slice none 0 0, .string ⟨#[]⟩] 25)) w.heap.size 25 #[.string ⟨#[]⟩, .string ⟨#[]⟩, .int .i64 0, .string ⟨#[]⟩, .slice none 0 0, .string ⟨#[]⟩] := Blk.new _ _ _
  have hB0 : Below w.heap.size w (w.alloc (.cells #[.string ⟨#[]⟩, .string ⟨#[]⟩, .int .i64 0, .string ⟨#[]⟩, .slice none 0 0, .string ⟨#[]⟩] 25)) := (Below.refl _ _).alloc (Nat.le_refl _) _
  by_cases hl : 4096 < s.size
  · have HP := Lib.hid (parseS_long (us s) (by rw [length_us]; exact hl))
    obtain ⟨_, _, _, _, _, _, f0, f1, f2, f3, f4, f5, z2⟩ := b0.g6
    go_enter Tryd.func9, Tryd.ntmps9
    go_wp2
    refine bodyPost_ret (v := .tuple #[.agg #[.string ⟨#[]⟩, .string ⟨#[]⟩, .int .i64 0, .string ⟨#[]⟩, .slice none 0 0, .string ⟨#[]⟩], .int .i64 2]) (by simp [results, Tryd.results9, go_sem]) rfl ?_
    rw [HP.out]
    exact post_bad 2 (by first | exact hB0 | exact below_put6 hB0 (Nat.le_refl _))
  · have hl' : ¬ 4096 < (us s).length := by rw [length_us]; exact hl
    obtain ⟨w0, hw0⟩ : ∃ w0, w0 = w.alloc (.cells #[.string ⟨#[]⟩, .string ⟨#[]⟩, .int .i64 0, .string ⟨#[]⟩, .slice none 0 0, .string ⟨#[]⟩] 25) := ⟨_, rfl⟩
    have HW0 := Lib.hid hw0.symm
    rw [← hw0] at b0 hB0
    have HL := Lib.hid (lines_c s (by omega) w0 (HM.out.below hB0))
    have HX := Lib.hid (fun (wx : World) (h : Below w0.heap.size w0 wx) => (⟨b0.call h, hB0.trans (h.mono hB0.size), HM.out.below (hB0.trans (h.mono hB0.size))⟩ : Blk wx w.heap.size 25 #[.string ⟨#[]⟩, .string ⟨#[]⟩, .int .i64 0, .string ⟨#[]⟩, .slice none 0 0, .string ⟨#[]⟩] ∧ Below w.heap.size w wx ∧ Ml wx))
    clear hw0
    unfold HeadPost at HL
    cases hh : headGo [] [] (us s) with
    | none =>
      have HP := Lib.hid (parseS_none _ hl' hh)
      rw [hh] at HL
      clear hh b0 hB0
      go_enter Tryd.func9, Tryd.ntmps9
      go_wp2_with (go_at_call 25; rw [HW0.out]; refine HL.out.mono ?_; rintro e w1 ⟨v, n, rfl, hC, rfl, rfl⟩; obtain ⟨b2, hBS, _⟩ := HX.out w1 hC; obtain ⟨_, _, _, _, _, _, f0, f1, f2, f3, f4, f5, z2⟩ := b2.g6)
      refine any_world (R := bodyPost _ _ _ _ _) (fun w' => Blk w' w.heap.size 25 #[.string ⟨#[]⟩, .string ⟨#[]⟩, .int .i64 0, .string ⟨#[]⟩, .slice none 0 0, .string ⟨#[]⟩] ∧ Below w.heap.size w w') ⟨b2.put6, below_put6 hBS (Nat.le_refl _)⟩ ?_
      rintro wF ⟨bF, hBF⟩
      obtain ⟨r0, r1, r2, r3, r4, r5, _⟩ := bF.g6
      refine bodyPost_ret (v := .tuple #[.agg #[.string ⟨#[]⟩, .string ⟨#[]⟩, .int .i64 0, .string ⟨#[]⟩, .slice none 0 0, .string ⟨#[]⟩], .int .i64 63]) (by simp [results, Tryd.results9, go_sem, r0, r1, r2, r3, r4, r5]) rfl ?_
      rw [HP.out]
      exact post_bad 63 hBF
    | some LR =>
      obtain ⟨L, rest⟩ := LR
      have hp := parseS_some _ hl' L rest hh
      rw [hh] at HL
      clear hh b0 hB0
      cases L with
      | nil =>
        have HP := Lib.hid (show parseS (us s) = (mg0, 63) from hp)
        clear hp
        go_enter Tryd.func9, Tryd.ntmps9
        go_wp2_with (go_at_call 25; rw [HW0.out]; refine HL.out.mono ?_; rintro e w1 ⟨v, n, rfl, hC, hR, k, rfl, hk, hrest, hbd⟩; obtain ⟨b2, hBS, hM1⟩ := HX.out w1 hC; obtain ⟨_, _, _, _, _, _, f0, f1, f2, f3, f4, f5, z2⟩ := b2.g6; obtain ⟨ao, cap, rfl⟩ : ∃ ao cap, v = .slice ao 0 cap := by rcases hR.cases with ⟨h, _⟩ | ⟨b, off, cap, h, _⟩ <;> first | exact h | exact ⟨_, _, h⟩)
        refine any_world (R := bodyPost _ _ _ _ _) (fun w' => Blk w' w.heap.size 25 #[.string ⟨#[]⟩, .string ⟨#[]⟩, .int .i64 0, .string ⟨#[]⟩, .slice none 0 0, .string ⟨#[]⟩] ∧ Below w.heap.size w w') ⟨b2.put6, below_put6 hBS (Nat.le_refl _)⟩ ?_
        rintro wF ⟨bF, hBF⟩
        obtain ⟨r0, r1, r2, r3, r4, r5, _⟩ := bF.g6
        refine bodyPost_ret (v := .tuple #[.agg #[.string ⟨#[]⟩, .string ⟨#[]⟩, .int .i64 0, .string ⟨#[]⟩, .slice none 0 0, .string ⟨#[]⟩], .int .i64 63]) (by simp [results, Tryd.results9, go_sem, r0, r1, r2, r3, r4, r5]) rfl ?_
        rw [HP.out]
        exact post_bad 63 hBF
      | cons t ts =>
        have hnil : (t :: ts : List (List UInt8)) = [] → False := fun h => by cases h
        have lz1 : (((ts.length : Int) + 1) == 0) = false := by rw [beq_eq_false_iff_ne]; omega
        have lz2 : (0 : Int) < (ts.length : Int) + 1 := by omega
        have lz3 : (1 : Int) ≤ (ts.length : Int) + 1 := by omega
        cases hst : startS t with
        | none =>
          have HP := Lib.hid (hp.trans (parse2_none t ts rest hst))
          clear hp
          have HS := Lib.hid (fun (ht : t.length ≤ 4096) wx hx => by have := start_c (bs t) (by rw [size_bs]; omega) wx hx; rw [us_bs, hst] at this; exact this)
          unfold StartPost at HS
          clear hst
          go_enter Tryd.func9, Tryd.ntmps9
          go_wp2_with (first | (go_at_call 25; rw [HW0.out]; refine HL.out.mono ?_; rintro e w1 ⟨v, n, rfl, hC, hR, k, rfl, hk, hrest, hbd⟩; obtain ⟨b1, hB1, hM1⟩ := HX.out w1 hC; rcases hR.cases with ⟨_, h0⟩ | ⟨bl, off, cap, rfl, hcap, hmx, hlt, hcl⟩; (focus exact (hnil h0).elim); have x0 : w1.cell? ⟨bl, off, none⟩ = some (.string (bs t)) := hcl 0 (by simp); have htl := hbd t (List.mem_cons_self ..); rw [length_us] at hk; clear hcl hR hbd hrest) | (go_at_call 26; refine (HS.out (by omega) _ hM1).mono ?_; rintro e w2 ⟨v2, ok, rfl, hC2, ⟨M, TG, X, R, B, rfl⟩, rfl⟩; obtain ⟨b2, hBS, hM2⟩ := HX.out w2 (hC.trans (hC2.mono hC.size)); obtain ⟨_, _, _, _, _, _, f0, f1, f2, f3, f4, f5, z2⟩ := b2.g6))
          refine any_world (R := bodyPost _ _ _ _ _) (fun w' => Blk w' w.heap.size 25 #[.string ⟨#[]⟩, .string ⟨#[]⟩, .int .i64 0, .string ⟨#[]⟩, .slice none 0 0, .string ⟨#[]⟩] ∧ Below w.heap.size w w') ⟨b2.put6.alloc _, (below_put6 hBS (Nat.le_refl _)).alloc (below_put6 hBS (Nat.le_refl _)).size _⟩ ?_
          rintro wF ⟨bF, hBF⟩
          obtain ⟨r0, r1, r2, r3, r4, r5, _⟩ := bF.g6
          refine bodyPost_ret (v := .tuple #[.agg #[.string ⟨#[]⟩, .string ⟨#[]⟩, .int .i64 0, .string ⟨#[]⟩, .slice none 0 0, .string ⟨#[]⟩], .int .i64 60]) (by simp [results, Tryd.results9, go_sem, r0, r1, r2, r3, r4, r5]) rfl ?_
          rw [HP.out]
          exact post_bad 60 hBF
        | some m =>
          have HP := Lib.hid (hp.trans (parse2_some t ts rest m hst))
          clear hp
          have hso := startS_ok t m hst
          have HS := Lib.hid (fun (ht : t.length ≤ 4096) wx hx => show Calls Tryd.prog 26 #[.string (bs t)] wx fun e w' => e = .returned (.tuple #[.agg #[.string (bs m.method), .string (bs m.target), .int .i64 m.status, .string (bs m.reason), .slice none 0 0, .string ⟨#[]⟩], .bool true]) ∧ Below wx.heap.size wx w' from by
            have := start_c (bs t) (by rw [size_bs]; omega) wx hx
            rw [us_bs, hst] at this
            refine this.mono ?_
            rintro e w' ⟨v2, ok, rfl, hC2, _, rfl, rfl, _, hmb⟩
            refine ⟨?_, hC2⟩
            unfold mgv sv
            rw [hmb]; rfl)
          clear hst
          obtain ⟨M, hM0⟩ : ∃ M, M = bs m.method := ⟨_, rfl⟩
          obtain ⟨TG, hT0⟩ : ∃ M, M = bs m.target := ⟨_, rfl⟩
          obtain ⟨RS, hR0⟩ : ∃ M, M = bs m.reason := ⟨_, rfl⟩
          obtain ⟨X, hX0⟩ : ∃ X, X = m.status := ⟨_, rfl⟩
          rw [← hM0, ← hT0, ← hR0, ← hX0] at HS
          have HMV := Lib.hid (fun (u : Value) (H : List Hdr) (b : List UInt8) => show mgv { m with hdrs := H, body := b } u = .agg #[.string M, .string TG, .int .i64 X, .string RS, u, .string (bs b)] by rw [hM0, hT0, hR0, hX0]; rfl)
          clear hM0 hT0 hR0 hX0 hso
          go_enter Tryd.func9, Tryd.ntmps9
          go_wp2_with (first | (go_at_call 25; rw [HW0.out]; refine HL.out.mono ?_; rintro e w1 ⟨v, n, rfl, hC, hR, k, rfl, hk, hrest, hbd⟩; obtain ⟨b1, hB1, hM1⟩ := HX.out w1 hC; rcases hR.cases with ⟨_, h0⟩ | ⟨bl, off, cap, rfl, hcap, hmx, hlt, hcl⟩; (focus exact (hnil h0).elim); have x0 : w1.cell? ⟨bl, off, none⟩ = some (.string (bs t)) := hcl 0 (by simp); have htz : ts.length < 9223372036854775807 := (by have := hcap; simp only [List.length_cons] at this; unfold maxLen at hmx; omega); have htl := hbd t (List.mem_cons_self ..); rw [length_us] at hk; have HCL := Lib.hid hcl; have HBD := Lib.hid hbd; have HRS := Lib.hid hrest; clear hcl hR hbd hrest) | (go_at_call 26; refine (HS.out (by omega) _ hM1).mono ?_; rintro e w2 ⟨rfl, hC2⟩))
          all_goals
            have bm : Blk (w2.alloc (.cells #[.string M, .string TG, .int .i64 X, .string RS, .slice none 0 0, .string ⟨#[]⟩] 25)) w2.heap.size 25 #[.string M, .string TG, .int .i64 X, .string RS, .slice none 0 0, .string ⟨#[]⟩] := Blk.new _ _ _
            obtain ⟨w3, hw3⟩ : ∃ w3, w3 = w2.alloc (.cells #[.string M, .string TG, .int .i64 X, .string RS, .slice none 0 0, .string ⟨#[]⟩] 25) := ⟨_, rfl⟩
            have hB3 : Below w2.heap.size w2 w3 := by rw [hw3]; exact (Below.refl _ _).alloc (Nat.le_refl _) _
            rw [← hw3] at bm
            simp only [← hw3]
            clear hw3
            have HX2 := Lib.hid (fun (wx : World) (h : Below w2.heap.size w2 wx) => HX.out wx ((hC.trans (hC2.mono hC.size)).trans (h.mono ((hC.trans (hC2.mono hC.size)).size))))
            have HCR := Lib.hid (fun (wx : World) (h : Below w2.heap.size w2 wx) (i : Nat) (hi : i < ts.length) => (show wx.cell? ⟨bl, off + 1 + i, none⟩ = some (.string (bs ts[i])) from by
              have hb := hC2.trans (h.mono hC2.size)
              rw [hb.cell (p := ⟨bl, off + 1 + i, none⟩) hlt, show off + 1 + i = off + (i + 1) by omega]
              exact HCL.out (i + 1) (by simp; omega)))
            go_loopw [48, 8] (fun j zz wr => ∃ (i : Nat) (H : List Hdr) (z : Int) (u : Value), i ≤ ts.length ∧ j = .int .i64 i ∧ zz = .int .i64 z ∧ Below w2.heap.size w2 wr ∧ Blk wr w2.heap.size 25 #[.string M, .string TG, .int .i64 X, .string RS, u, .string ⟨#[]⟩] ∧ Hdrs wr (w2.heap.size + 1) u H ∧ H.length ≤ 64 ∧ -1 ≤ z ∧ z ≤ 4096 ∧ linesS [] (-1) ts = linesS H z (ts.drop i)) (fun j _ _ => ts.length - (intOf j).toNat)
            case atStart => exact ⟨0, [], -1, .slice none 0 0, Nat.zero_le _, rfl, rfl, hB3, bm, Hdrs.nil _ _, Nat.zero_le _, by decide, by decide, rfl⟩
            case round =>
              obtain ⟨i, H, z, u, hi, rfl, rfl, hBr, bmr, hown, hH, hz0, hz1, hpp⟩ := hrel
              have HPP := Lib.hid hpp
              clear hpp
              obtain ⟨b2, hBS, hMr⟩ := HX2.out wr hBr
              obtain ⟨_, _, _, _, _, _, f0, f1, f2, f3, f4, f5, z2⟩ := b2.g6
              by_cases hil : i < ts.length
              · try (exfalso; simp only [List.length_cons] at hcap; omega)
                all_goals
                  have x1 := HCR.out wr hBr i hil
                  have htm : ts[i].length ≤ 4096 := by have := HBD.out ts[i] (List.mem_cons_of_mem _ (List.getElem_mem _)); omega
                  have hLN := Lib.hid (fun H' z' hc => lines_next ts H H' z z' i hil HPP.out hc)
                  have hLB := Lib.hid (fun c h0 hc => lines_bad ts H z i hil m rest c h0 HPP.out hc)
                  have hls : lineS H z ts[i] = lineOf H z (longS (trimR (cutb 58 ts[i]).1)) (trim (cutb 58 ts[i]).2.1) (cutb 58 ts[i]).2.2 := rfl
                  have l1 := cutb_le 58 ts[i]
                  have l2 := trim_length (cutb 58 ts[i]).2.1
                  have l3 : (trimR (cutb 58 ts[i]).1).length ≤ (cutb 58 ts[i]).1.length := by unfold trimR; rw [List.length_reverse]; exact Nat.le_trans (List.dropWhile_suffix _).length_le (by rw [List.length_reverse]; exact Nat.le_refl _)
                  have l4 := longS_le (trimR (cutb 58 ts[i]).1)
                  have HCut := Lib.hid (fun wx hx => cut_c (bs ts[i]) (by rw [size_bs]; omega) 58 wx hx)
                  have HTr := Lib.hid (fun wx => trimRight_c (bs (cutb 58 ts[i]).1) (by rw [size_bs]; omega) wx)
                  have HLo := Lib.hid (fun wx => long_c (bs (trimR (cutb 58 ts[i]).1)) (by rw [size_bs]; omega) wx)
                  have HTm := Lib.hid (fun wx => trim_c (bs (cutb 58 ts[i]).2.1) (by rw [size_bs]; omega) wx)
                  have HTk := Lib.hid (fun wx => token_c (bs (longS (trimR (cutb 58 ts[i]).1))) (by rw [size_bs]; omega) wx)
                  have HVs := Lib.hid (fun wx => visible_c (bs (trim (cutb 58 ts[i]).2.1)) (by rw [size_bs]; omega) wx)
                  have HLn := Lib.hid (fun wx => length_c (bs (longS (trimR (cutb 58 ts[i]).1))) (by rw [size_bs]; omega) wx)
                  have HNm := Lib.hid (fun wx => number_c (bs (trim (cutb 58 ts[i]).2.1)) (by rw [size_bs]; omega) 4096 (by decide) (by decide) wx)
                  rw [us_bs] at HCut HTr HLo HTm HTk HVs HLn HNm
                  rw [longS_long] at HLn
                  obtain ⟨nm, hnm⟩ : ∃ x, x = longS (trimR (cutb 58 ts[i]).1) := ⟨_, rfl⟩
                  obtain ⟨vv, hvv⟩ : ∃ x, x = trim (cutb 58 ts[i]).2.1 := ⟨_, rfl⟩
                  rw [← hnm] at HLo HTk HLn hls
                  rw [← hvv] at HTm HVs HNm hls
                  rw [hls] at hLN hLB
                  obtain ⟨is, his⟩ : ∃ x, x = (cutb 58 ts[i]).2.2 := ⟨_, rfl⟩
                  rw [← his] at HCut hLN hLB
                  obtain ⟨CA, hCA⟩ : ∃ x, x = bs (cutb 58 ts[i]).1 := ⟨_, rfl⟩
                  obtain ⟨CB, hCB⟩ : ∃ x, x = bs (cutb 58 ts[i]).2.1 := ⟨_, rfl⟩
                  obtain ⟨TR, hTR⟩ : ∃ x, x = bs (trimR (cutb 58 ts[i]).1) := ⟨_, rfl⟩
                  rw [← hCA] at HCut HTr
                  rw [← hCB] at HCut HTm
                  rw [← hTR] at HTr HLo
                  have hn61 := line_61 H z nm vv is
                  have hnok := line_ok H z nm vv
                  have hnb := number_bd vv 4096 (by decide)
                  have uN := us_bs nm
                  have uV := us_bs vv
                  obtain ⟨N, hN⟩ : ∃ x, x = bs nm := ⟨_, rfl⟩
                  obtain ⟨V, hV⟩ : ∃ x, x = bs vv := ⟨_, rfl⟩
                  rw [← hN] at HLo HTk HLn uN
                  rw [← hV] at HTm HVs HNm uV
                  have HUN := Lib.hid uN
                  have HUV := Lib.hid uV
                  clear hls l1 l2 l3 l4 hnm hvv his hCA hCB hTR hN hV htm uN uV
                  have HIL := Lib.hid (show i + 1 ≤ ts.length from hil)
                  cases htk : token nm <;> cases hvs : visS vv <;> cases is
                  case true.true.true =>
                    have hk2 := hnok htk hvs
                    rw [htk] at HTk
                    rw [hvs] at HVs
                    clear htk hvs hn61 hnok
                    cases hln : isLen nm
                    · rw [hln] at HLn
                      rw [if_pos hln] at hk2
                      clear hnb hln
                      by_cases h64 : 64 ≤ H.length
                      · have HB4 := Lib.hid (hLB.out 4 (by decide) (by rw [hk2, if_pos h64]))
                        have t64 : ((H.length : Int) == 64) = true := by simp; omega
                        clear hk2 h64
                        go_wp2_with (first | (go_at_call 27; refine (HCut.out _ hMr).mono ?_; rintro e w4 ⟨rfl, hD⟩; have bmr := bmr.call hD.below; have hown := hown.below hD.below (Nat.le_refl _); have hBr := hBr.trans hD.below) | (go_at_call 28; refine (HTr.out _).mono ?_; rintro e w5 ⟨rfl, hC5⟩; have bmr := bmr.call hC5; have hown := hown.below hC5 (Nat.le_refl _); have hBr := hBr.trans (hC5.mono hBr.size)) | (go_at_call 23; refine (HLo.out _).mono ?_; rintro e w6 ⟨rfl, hC6⟩; have bmr := bmr.call hC6; have hown := hown.below hC6 (Nat.le_refl _); have hBr := hBr.trans (hC6.mono hBr.size); obtain ⟨b2, hBS, hMr⟩ := HX2.out _ hBr; obtain ⟨_, _, _, _, _, _, f0, f1, f2, f3, f4, f5, z2⟩ := b2.g6) | (go_at_call 29; refine (HTm.out _).mono ?_; rintro e wx ⟨rfl, rfl⟩) | (go_at_call 30; refine (HTk.out _).mono ?_; rintro e wx ⟨rfl, rfl⟩) | (go_at_call 31; refine (HVs.out _).mono ?_; rintro e wx ⟨rfl, rfl⟩) | (go_at_call 32; refine (HLn.out _).mono ?_; rintro e w7 ⟨rfl, hC7⟩; obtain ⟨b14, hC7', _⟩ := newCall hC7; obtain ⟨n0, n1, _, _, _⟩ := b14.f2; have bmr := bmr.call hC7'; have hown := hown.below hC7' (Nat.le_refl _); have hBr := hBr.trans (hC7'.mono hBr.size); obtain ⟨b2, hBS, hMr⟩ := HX2.out _ hBr; obtain ⟨_, _, _, _, _, _, f0, f1, f2, f3, f4, f5, z2⟩ := b2.g6; obtain ⟨p0, p1, p2, p3, p4, p5, g0, g1, g2, g3, g4, g5, z4⟩ := bmr.g6; have hlen := hdrs_len hown) | (go_at_call 33; refine (HNm.out _).mono ?_; rintro e wx ⟨rfl, rfl⟩))
                        refine any_world (R := bodyPost _ _ _ _ _) (fun w' => Blk w' w.heap.size 25 #[.string ⟨#[]⟩, .string ⟨#[]⟩, .int .i64 0, .string ⟨#[]⟩, .slice none 0 0, .string ⟨#[]⟩] ∧ Below w.heap.size w w') ⟨b2.put6, below_put6 hBS (Nat.le_refl _)⟩ ?_
                        rintro wF ⟨bF, hBF⟩
                        obtain ⟨r0, r1, r2, r3, r4, r5, _⟩ := bF.g6
                        refine bodyPost_ret (v := .tuple #[.agg #[.string ⟨#[]⟩, .string ⟨#[]⟩, .int .i64 0, .string ⟨#[]⟩, .slice none 0 0, .string ⟨#[]⟩], .int .i64 4]) (by simp [results, Tryd.results9, go_sem, r0, r1, r2, r3, r4, r5]) rfl ?_
                        rw [HP.out, HB4.out]
                        exact post_bad 4 hBF
                      · have HN2 := Lib.hid (hLN.out (H ++ [⟨nm, vv⟩]) z (by rw [hk2, if_neg h64]))
                        have t64 : ((H.length : Int) == 64) = false := by simp; omega
                        clear hk2
                        go_wp2_with (first | (go_at_call 27; refine (HCut.out _ hMr).mono ?_; rintro e w4 ⟨rfl, hD⟩; have bmr := bmr.call hD.below; have hown := hown.below hD.below (Nat.le_refl _); have hBr := hBr.trans hD.below) | (go_at_call 28; refine (HTr.out _).mono ?_; rintro e w5 ⟨rfl, hC5⟩; have bmr := bmr.call hC5; have hown := hown.below hC5 (Nat.le_refl _); have hBr := hBr.trans (hC5.mono hBr.size)) | (go_at_call 23; refine (HLo.out _).mono ?_; rintro e w6 ⟨rfl, hC6⟩; have bmr := bmr.call hC6; have hown := hown.below hC6 (Nat.le_refl _); have hBr := hBr.trans (hC6.mono hBr.size); obtain ⟨b2, hBS, hMr⟩ := HX2.out _ hBr; obtain ⟨_, _, _, _, _, _, f0, f1, f2, f3, f4, f5, z2⟩ := b2.g6) | (go_at_call 29; refine (HTm.out _).mono ?_; rintro e wx ⟨rfl, rfl⟩) | (go_at_call 30; refine (HTk.out _).mono ?_; rintro e wx ⟨rfl, rfl⟩) | (go_at_call 31; refine (HVs.out _).mono ?_; rintro e wx ⟨rfl, rfl⟩) | (go_at_call 32; refine (HLn.out _).mono ?_; rintro e w7 ⟨rfl, hC7⟩; obtain ⟨b14, hC7', _⟩ := newCall hC7; obtain ⟨n0, n1, _, _, _⟩ := b14.f2; have bmr := bmr.call hC7'; have hown := hown.below hC7' (Nat.le_refl _); have hBr := hBr.trans (hC7'.mono hBr.size); obtain ⟨b2, hBS, hMr⟩ := HX2.out _ hBr; obtain ⟨_, _, _, _, _, _, f0, f1, f2, f3, f4, f5, z2⟩ := b2.g6; obtain ⟨p0, p1, p2, p3, p4, p5, g0, g1, g2, g3, g4, g5, z4⟩ := bmr.g6; have hlen := hdrs_len hown) | (go_at_call 33; refine (HNm.out _).mono ?_; rintro e wx ⟨rfl, rfl⟩) | (at_builtin; refine wpList_appH1 ⟨nm, vv⟩ HUN.out HUV.out rfl rfl Tryd.underlying23 infoH rfl rfl hown (Below.refl _ _) bmr.lt ?_ ?_; (focus omega); intro v1 w8 ho1 hb1; obtain ⟨ao1, cp1, rfl⟩ : ∃ ao cp, v1 = .slice ao (H.length + 1) cp := (by obtain ⟨ao1, cp1, hv1, _⟩ := ho1.len; exact ⟨ao1, cp1, by rw [hv1]; simp⟩); have bm8 := bmr.below hb1 (Nat.lt_succ_self _); obtain ⟨q0, q1, q2, q3, q4, q5, h0, h1, h2, h3, h4, h5, z5⟩ := bm8.g6))
                        go_roundw
                        case rel =>
                          refine ⟨i + 1, _, z, _, by have := HIL.out; omega, by go_num, rfl, (hBr.trans (hb1.mono (Nat.le_succ _))).setCell (Nat.le_refl _) _, bm8.set_ 4 _, ho1.set (Nat.lt_succ_self _) _, by rw [List.length_append]; simp; omega, hz0, hz1, HN2.out⟩
                        case measure => have := HIL.out; simp [intOf]; omega
                    · rw [hln] at HLn
                      rw [if_neg (by rw [hln]; decide)] at hk2
                      clear hln
                      obtain ⟨nn, hnn⟩ : ∃ x, x = (number vv 4096).1 := ⟨_, rfl⟩
                      obtain ⟨ne, hne⟩ : ∃ x, x = (number vv 4096).2 := ⟨_, rfl⟩
                      rw [← hnn] at HNm hk2 hnb
                      rw [← hne] at HNm hk2 hnb
                      clear hnn hne
                      by_cases hn0 : ne = 0
                      · subst hn0
                        obtain ⟨nb0, nb1⟩ := hnb rfl
                        clear hnb
                        by_cases hzz : 0 ≤ z
                        · have HB62 := Lib.hid (hLB.out 62 (by decide) (by rw [hk2, if_pos (.inr hzz)]))
                          clear hk2
                          go_wp2_with (first | (go_at_call 27; refine (HCut.out _ hMr).mono ?_; rintro e w4 ⟨rfl, hD⟩; have bmr := bmr.call hD.below; have hown := hown.below hD.below (Nat.le_refl _); have hBr := hBr.trans hD.below) | (go_at_call 28; refine (HTr.out _).mono ?_; rintro e w5 ⟨rfl, hC5⟩; have bmr := bmr.call hC5; have hown := hown.below hC5 (Nat.le_refl _); have hBr := hBr.trans (hC5.mono hBr.size)) | (go_at_call 23; refine (HLo.out _).mono ?_; rintro e w6 ⟨rfl, hC6⟩; have bmr := bmr.call hC6; have hown := hown.below hC6 (Nat.le_refl _); have hBr := hBr.trans (hC6.mono hBr.size); obtain ⟨b2, hBS, hMr⟩ := HX2.out _ hBr; obtain ⟨_, _, _, _, _, _, f0, f1, f2, f3, f4, f5, z2⟩ := b2.g6) | (go_at_call 29; refine (HTm.out _).mono ?_; rintro e wx ⟨rfl, rfl⟩) | (go_at_call 30; refine (HTk.out _).mono ?_; rintro e wx ⟨rfl, rfl⟩) | (go_at_call 31; refine (HVs.out _).mono ?_; rintro e wx ⟨rfl, rfl⟩) | (go_at_call 32; refine (HLn.out _).mono ?_; rintro e w7 ⟨rfl, hC7⟩; obtain ⟨b14, hC7', _⟩ := newCall hC7; obtain ⟨n0, n1, _, _, _⟩ := b14.f2; have bmr := bmr.call hC7'; have hown := hown.below hC7' (Nat.le_refl _); have hBr := hBr.trans (hC7'.mono hBr.size); obtain ⟨b2, hBS, hMr⟩ := HX2.out _ hBr; obtain ⟨_, _, _, _, _, _, f0, f1, f2, f3, f4, f5, z2⟩ := b2.g6; obtain ⟨p0, p1, p2, p3, p4, p5, g0, g1, g2, g3, g4, g5, z4⟩ := bmr.g6; have hlen := hdrs_len hown) | (go_at_call 33; refine (HNm.out _).mono ?_; rintro e wx ⟨rfl, rfl⟩))
                          refine any_world (R := bodyPost _ _ _ _ _) (fun w' => Blk w' w.heap.size 25 #[.string ⟨#[]⟩, .string ⟨#[]⟩, .int .i64 0, .string ⟨#[]⟩, .slice none 0 0, .string ⟨#[]⟩] ∧ Below w.heap.size w w') ⟨b2.put6, below_put6 hBS (Nat.le_refl _)⟩ ?_
                          rintro wF ⟨bF, hBF⟩
                          obtain ⟨r0, r1, r2, r3, r4, r5, _⟩ := bF.g6
                          refine bodyPost_ret (v := .tuple #[.agg #[.string ⟨#[]⟩, .string ⟨#[]⟩, .int .i64 0, .string ⟨#[]⟩, .slice none 0 0, .string ⟨#[]⟩], .int .i64 62]) (by simp [results, Tryd.results9, go_sem, r0, r1, r2, r3, r4, r5]) rfl ?_
                          rw [HP.out, HB62.out]
                          exact post_bad 62 hBF
                        · have HN2 := Lib.hid (hLN.out H nn (by rw [hk2, if_neg (by rintro (h | h); exact h rfl; exact hzz h)]))
                          clear hk2
                          go_wp2_with (first | (go_at_call 27; refine (HCut.out _ hMr).mono ?_; rintro e w4 ⟨rfl, hD⟩; have bmr := bmr.call hD.below; have hown := hown.below hD.below (Nat.le_refl _); have hBr := hBr.trans hD.below) | (go_at_call 28; refine (HTr.out _).mono ?_; rintro e w5 ⟨rfl, hC5⟩; have bmr := bmr.call hC5; have hown := hown.below hC5 (Nat.le_refl _); have hBr := hBr.trans (hC5.mono hBr.size)) | (go_at_call 23; refine (HLo.out _).mono ?_; rintro e w6 ⟨rfl, hC6⟩; have bmr := bmr.call hC6; have hown := hown.below hC6 (Nat.le_refl _); have hBr := hBr.trans (hC6.mono hBr.size); obtain ⟨b2, hBS, hMr⟩ := HX2.out _ hBr; obtain ⟨_, _, _, _, _, _, f0, f1, f2, f3, f4, f5, z2⟩ := b2.g6) | (go_at_call 29; refine (HTm.out _).mono ?_; rintro e wx ⟨rfl, rfl⟩) | (go_at_call 30; refine (HTk.out _).mono ?_; rintro e wx ⟨rfl, rfl⟩) | (go_at_call 31; refine (HVs.out _).mono ?_; rintro e wx ⟨rfl, rfl⟩) | (go_at_call 32; refine (HLn.out _).mono ?_; rintro e w7 ⟨rfl, hC7⟩; obtain ⟨b14, hC7', _⟩ := newCall hC7; obtain ⟨n0, n1, _, _, _⟩ := b14.f2; have bmr := bmr.call hC7'; have hown := hown.below hC7' (Nat.le_refl _); have hBr := hBr.trans (hC7'.mono hBr.size); obtain ⟨b2, hBS, hMr⟩ := HX2.out _ hBr; obtain ⟨_, _, _, _, _, _, f0, f1, f2, f3, f4, f5, z2⟩ := b2.g6; obtain ⟨p0, p1, p2, p3, p4, p5, g0, g1, g2, g3, g4, g5, z4⟩ := bmr.g6; have hlen := hdrs_len hown) | (go_at_call 33; refine (HNm.out _).mono ?_; rintro e wx ⟨rfl, rfl⟩))
                          go_roundw
                          case rel => exact ⟨i + 1, H, nn, u, by have := HIL.out; omega, by go_num, rfl, hBr, bmr, hown, hH, by omega, nb1, HN2.out⟩
                          case measure => have := HIL.out; simp [intOf]; omega
                      · have HB62 := Lib.hid (hLB.out 62 (by decide) (by rw [hk2, if_pos (.inl hn0)]))
                        have t0 : (ne != 0) = true := by simpa using hn0
                        clear hk2 hn0 hnb
                        go_wp2_with (first | (go_at_call 27; refine (HCut.out _ hMr).mono ?_; rintro e w4 ⟨rfl, hD⟩; have bmr := bmr.call hD.below; have hown := hown.below hD.below (Nat.le_refl _); have hBr := hBr.trans hD.below) | (go_at_call 28; refine (HTr.out _).mono ?_; rintro e w5 ⟨rfl, hC5⟩; have bmr := bmr.call hC5; have hown := hown.below hC5 (Nat.le_refl _); have hBr := hBr.trans (hC5.mono hBr.size)) | (go_at_call 23; refine (HLo.out _).mono ?_; rintro e w6 ⟨rfl, hC6⟩; have bmr := bmr.call hC6; have hown := hown.below hC6 (Nat.le_refl _); have hBr := hBr.trans (hC6.mono hBr.size); obtain ⟨b2, hBS, hMr⟩ := HX2.out _ hBr; obtain ⟨_, _, _, _, _, _, f0, f1, f2, f3, f4, f5, z2⟩ := b2.g6) | (go_at_call 29; refine (HTm.out _).mono ?_; rintro e wx ⟨rfl, rfl⟩) | (go_at_call 30; refine (HTk.out _).mono ?_; rintro e wx ⟨rfl, rfl⟩) | (go_at_call 31; refine (HVs.out _).mono ?_; rintro e wx ⟨rfl, rfl⟩) | (go_at_call 32; refine (HLn.out _).mono ?_; rintro e w7 ⟨rfl, hC7⟩; obtain ⟨b14, hC7', _⟩ := newCall hC7; obtain ⟨n0, n1, _, _, _⟩ := b14.f2; have bmr := bmr.call hC7'; have hown := hown.below hC7' (Nat.le_refl _); have hBr := hBr.trans (hC7'.mono hBr.size); obtain ⟨b2, hBS, hMr⟩ := HX2.out _ hBr; obtain ⟨_, _, _, _, _, _, f0, f1, f2, f3, f4, f5, z2⟩ := b2.g6; obtain ⟨p0, p1, p2, p3, p4, p5, g0, g1, g2, g3, g4, g5, z4⟩ := bmr.g6; have hlen := hdrs_len hown) | (go_at_call 33; refine (HNm.out _).mono ?_; rintro e wx ⟨rfl, rfl⟩))
                        refine any_world (R := bodyPost _ _ _ _ _) (fun w' => Blk w' w.heap.size 25 #[.string ⟨#[]⟩, .string ⟨#[]⟩, .int .i64 0, .string ⟨#[]⟩, .slice none 0 0, .string ⟨#[]⟩] ∧ Below w.heap.size w w') ⟨b2.put6, below_put6 hBS (Nat.le_refl _)⟩ ?_
                        rintro wF ⟨bF, hBF⟩
                        obtain ⟨r0, r1, r2, r3, r4, r5, _⟩ := bF.g6
                        refine bodyPost_ret (v := .tuple #[.agg #[.string ⟨#[]⟩, .string ⟨#[]⟩, .int .i64 0, .string ⟨#[]⟩, .slice none 0 0, .string ⟨#[]⟩], .int .i64 62]) (by simp [results, Tryd.results9, go_sem, r0, r1, r2, r3, r4, r5]) rfl ?_
                        rw [HP.out, HB62.out]
                        exact post_bad 62 hBF
                  all_goals
                    have HB61 := Lib.hid (hLB.out 61 (by decide) (hn61 (by first | exact .inl rfl | exact .inr (.inl htk) | exact .inr (.inr hvs))))
                    rw [htk] at HTk
                    rw [hvs] at HVs
                    clear htk hvs hn61 hnok hnb
                    go_wp2_with (first | (go_at_call 27; refine (HCut.out _ hMr).mono ?_; rintro e w4 ⟨rfl, hD⟩; have bmr := bmr.call hD.below; have hown := hown.below hD.below (Nat.le_refl _); have hBr := hBr.trans hD.below) | (go_at_call 28; refine (HTr.out _).mono ?_; rintro e w5 ⟨rfl, hC5⟩; have bmr := bmr.call hC5; have hown := hown.below hC5 (Nat.le_refl _); have hBr := hBr.trans (hC5.mono hBr.size)) | (go_at_call 23; refine (HLo.out _).mono ?_; rintro e w6 ⟨rfl, hC6⟩; have bmr := bmr.call hC6; have hown := hown.below hC6 (Nat.le_refl _); have hBr := hBr.trans (hC6.mono hBr.size); obtain ⟨b2, hBS, hMr⟩ := HX2.out _ hBr; obtain ⟨_, _, _, _, _, _, f0, f1, f2, f3, f4, f5, z2⟩ := b2.g6) | (go_at_call 29; refine (HTm.out _).mono ?_; rintro e wx ⟨rfl, rfl⟩) | (go_at_call 30; refine (HTk.out _).mono ?_; rintro e wx ⟨rfl, rfl⟩) | (go_at_call 31; refine (HVs.out _).mono ?_; rintro e wx ⟨rfl, rfl⟩) | (go_at_call 32; refine (HLn.out _).mono ?_; rintro e w7 ⟨rfl, hC7⟩; obtain ⟨b14, hC7', _⟩ := newCall hC7; obtain ⟨n0, n1, _, _, _⟩ := b14.f2; have bmr := bmr.call hC7'; have hown := hown.below hC7' (Nat.le_refl _); have hBr := hBr.trans (hC7'.mono hBr.size); obtain ⟨b2, hBS, hMr⟩ := HX2.out _ hBr; obtain ⟨_, _, _, _, _, _, f0, f1, f2, f3, f4, f5, z2⟩ := b2.g6; obtain ⟨p0, p1, p2, p3, p4, p5, g0, g1, g2, g3, g4, g5, z4⟩ := bmr.g6; have hlen := hdrs_len hown) | (go_at_call 33; refine (HNm.out _).mono ?_; rintro e wx ⟨rfl, rfl⟩))
                    refine any_world (R := bodyPost _ _ _ _ _) (fun w' => Blk w' w.heap.size 25 #[.string ⟨#[]⟩, .string ⟨#[]⟩, .int .i64 0, .string ⟨#[]⟩, .slice none 0 0, .string ⟨#[]⟩] ∧ Below w.heap.size w w') ⟨b2.put6.alloc _, (below_put6 hBS (Nat.le_refl _)).alloc (below_put6 hBS (Nat.le_refl _)).size _⟩ ?_
                    rintro wF ⟨bF, hBF⟩
                    obtain ⟨r0, r1, r2, r3, r4, r5, _⟩ := bF.g6
                    refine bodyPost_ret (v := .tuple #[.agg #[.string ⟨#[]⟩, .string ⟨#[]⟩, .int .i64 0, .string ⟨#[]⟩, .slice none 0 0, .string ⟨#[]⟩], .int .i64 61]) (by simp [results, Tryd.results9, go_sem, r0, r1, r2, r3, r4, r5]) rfl ?_
                    rw [HP.out, HB61.out]
                    exact post_bad 61 hBF
              · have hle := lines_end ts H z i (by omega) m rest HPP.out
                have hin : ¬ ((i : Int) < (ts.length : Int)) := by omega
                have hrl : rest = us (s.extract k s.size) := by rw [HRS.out, us_tail]
                have hzl : (s.extract k s.size).size = s.size - k := by rw [size_extract _ _ _ (Nat.le_refl _)]
                have hrn : (rest.length : Int) = ((s.size - k : Nat) : Int) := by rw [hrl, length_us, hzl]
                have q0 : (0 : Int) ≤ (k : Int) := by omega
                have q1 : (k : Int) ≤ (s.size : Int) := by omega
                rw [hrn] at hle
                by_cases hgt : ((s.size - k : Nat) : Int) < z
                · have HB62 := Lib.hid (hle.trans (if_pos hgt))
                  clear hle hrl hrn
                  have hgt' : (s.size : Int) - (k : Int) < z := by omega
                  go_wp2
                  refine any_world (R := bodyPost _ _ _ _ _) (fun w' => Blk w' w.heap.size 25 #[.string ⟨#[]⟩, .string ⟨#[]⟩, .int .i64 0, .string ⟨#[]⟩, .slice none 0 0, .string ⟨#[]⟩] ∧ Below w.heap.size w w') ⟨b2.put6, below_put6 hBS (Nat.le_refl _)⟩ ?_
                  rintro wF ⟨bF, hBF⟩
                  obtain ⟨r0, r1, r2, r3, r4, r5, _⟩ := bF.g6
                  refine bodyPost_ret (v := .tuple #[.agg #[.string ⟨#[]⟩, .string ⟨#[]⟩, .int .i64 0, .string ⟨#[]⟩, .slice none 0 0, .string ⟨#[]⟩], .int .i64 62]) (by simp [results, Tryd.results9, go_sem, r0, r1, r2, r3, r4, r5]) rfl ?_
                  rw [HP.out, HB62.out]
                  exact post_bad 62 hBF
                · have hle2 := hle.trans (if_neg hgt)
                  obtain ⟨ao, cp, rfl, hfr0⟩ := hown.len
                  have hfr := hown.fresh
                  have hRd := hown.read
                  obtain ⟨p0, p1, p2, p3, p4, p5, g0, g1, g2, g3, g4, g5, z4⟩ := bmr.g6
                  have hg5 : w.heap.size ≠ (⟨w2.heap.size, 5, none⟩ : Addr).block := by
                    have h1 := (hC.trans (hC2.mono hC.size)).size
                    have h2 : w.heap.size < w0.heap.size := by rw [← HW0.out, World.size_alloc]; omega
                    show w.heap.size ≠ w2.heap.size
                    omega
                  have hg8 : w.heap.size < w2.heap.size := by
                    have h1 := (hC.trans (hC2.mono hC.size)).size
                    have h2 : w.heap.size < w0.heap.size := by rw [← HW0.out, World.size_alloc]; omega
                    omega
                  have hg6 : w.heap.size ≤ (⟨w2.heap.size, 5, none⟩ : Addr).block := by show w.heap.size ≤ w2.heap.size; omega
                  have hg7 : w.heap.size < w2.heap.size + 1 := by omega
                  clear hle
                  by_cases hz : 0 ≤ z
                  · obtain ⟨BD, hBD⟩ : ∃ BD, BD = (s.extract k s.size).extract 0 z.toNat := ⟨_, rfl⟩
                    have HE := Lib.hid (show endS m rest (linesS [] (-1) ts) = ({ m with hdrs := H, body := us BD }, 0) by
                      rw [hle2, hBD, us_extract, ← hrl]; unfold bodyS; rw [if_pos hz]; simp)
                    have hr5 : RHdrs (wr.setCell ⟨w2.heap.size, 5, none⟩ (.string BD)) (.slice ao H.length cp) H := hRd.set hfr (Nat.lt_succ_self _) _
                    have hgt' : ¬ ((s.size : Int) - (k : Int) < z) := by omega
                    have hgt2 : z ≤ (s.size : Int) - (k : Int) := by omega
                    clear hle2 hrl hrn hRd hgt
                    go_wp2
                    simp only [← hBD]
                    refine any_world (R := bodyPost _ _ _ _ _) (fun w' => Blk w' w.heap.size 25 #[.string M, .string TG, .int .i64 X, .string RS, .slice ao H.length cp, .string BD] ∧ Below w.heap.size w w' ∧ RHdrs w' (.slice ao H.length cp) H) ⟨(b2.far hg5 _).put6, below_put6 (hBS.setCell hg6 _) (Nat.le_refl _), hr5.put6 hfr hg7⟩ ?_
                    rintro wF ⟨bF, hBF, hRF⟩
                    obtain ⟨r0, r1, r2, r3, r4, r5, _⟩ := bF.g6
                    refine bodyPost_ret (v := .tuple #[.agg #[.string M, .string TG, .int .i64 X, .string RS, .slice ao H.length cp, .string BD], .int .i64 0]) (by simp [results, Tryd.results9, go_sem, r0, r1, r2, r3, r4, r5]) rfl ?_
                    rw [HP.out, HE.out]
                    refine ⟨.slice ao H.length cp, ?_, hRF, hfr.mono (by omega), hBF⟩
                    rw [HMV.out, bs_us]
                  · obtain ⟨BD, hBD⟩ : ∃ BD, BD = s.extract k s.size := ⟨_, rfl⟩
                    have HE := Lib.hid (show endS m rest (linesS [] (-1) ts) = ({ m with hdrs := H, body := us BD }, 0) by
                      rw [hle2, hBD, ← hrl]; unfold bodyS; rw [if_neg hz])
                    have hr5 : RHdrs (wr.setCell ⟨w2.heap.size, 5, none⟩ (.string BD)) (.slice ao H.length cp) H := hRd.set hfr (Nat.lt_succ_self _) _
                    have hgt' : ¬ ((s.size : Int) - (k : Int) < z) := by omega
                    have hgt2 : z ≤ (s.size : Int) - (k : Int) := by omega
                    clear hle2 hrl hrn hRd hgt
                    go_wp2
                    simp only [← hBD]
                    refine any_world (R := bodyPost _ _ _ _ _) (fun w' => Blk w' w.heap.size 25 #[.string M, .string TG, .int .i64 X, .string RS, .slice ao H.length cp, .string BD] ∧ Below w.heap.size w w' ∧ RHdrs w' (.slice ao H.length cp) H) ⟨(b2.far hg5 _).put6, below_put6 (hBS.setCell hg6 _) (Nat.le_refl _), hr5.put6 hfr hg7⟩ ?_
                    rintro wF ⟨bF, hBF, hRF⟩
                    obtain ⟨r0, r1, r2, r3, r4, r5, _⟩ := bF.g6
                    refine bodyPost_ret (v := .tuple #[.agg #[.string M, .string TG, .int .i64 X, .string RS, .slice ao H.length cp, .string BD], .int .i64 0]) (by simp [results, Tryd.results9, go_sem, r0, r1, r2, r3, r4, r5]) rfl ?_
                    rw [HP.out, HE.out]
                    refine ⟨.slice ao H.length cp, ?_, hRF, hfr.mono (by omega), hBF⟩
                    rw [HMV.out, bs_us]

end Go.Proofs.YtgpbnbaegghajaaDoor
