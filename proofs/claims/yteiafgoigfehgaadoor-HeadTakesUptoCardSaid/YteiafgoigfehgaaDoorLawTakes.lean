/-
  The law HeadTakes: the walk.
-/
import Derived.Test.YteiafgoigfehgaaDoorAwake8
import Derived.Test.YteiafgoigfehgaaDoorTakesP
import Derived.Test.YteiafgoigfehgaaDoorTakesS
namespace Go.Proofs.YteiafgoigfehgaaDoor
open Go.RowKit

theorem token_short (l : List UInt8) (h : token l = true) : l.length ≤ 64 := by
  unfold token at h
  simp only [Bool.and_eq_true, decide_eq_true_eq] at h
  exact h.1.2
theorem at_ty (T : ByteArray) (a b : List UInt8) (h : us T = a ++ 47 :: b) (ha : token a = true) (k : Nat) (hk : k ≤ a.length) (hs : k < T.size) : (T[k].toNat = 47) ↔ k = a.length := by
  have h1 := get_us T k hs
  rw [h] at h1
  rcases Nat.lt_or_ge k a.length with hlt | hge
  · rw [List.getElem?_append_left hlt, List.getElem?_eq_getElem hlt] at h1
    injection h1 with h1
    rw [← h1]
    exact ⟨fun e => absurd e (tok_slash a ha _ (List.getElem_mem hlt)), fun e => by omega⟩
  · have : k = a.length := by omega
    subst this
    rw [List.getElem?_append_right (Nat.le_refl _), Nat.sub_self] at h1
    injection h1 with h1
    rw [← h1]
    exact ⟨fun _ => rfl, fun _ => rfl⟩
theorem nmAc : (Tryd.f13.name == "runtime.NumGoroutine") = false := by kernel_rfl
theorem bdAc : Tryd.f13.body.isNone = false := by kernel_rfl
theorem blk_row1 {w : World} {g : Nat} {S : ByteArray} {r : List UInt8} (h : w.heap[g]? = some (.cells #[.string S] 9 (0, 0))) (hS : us S = r) : RStrs w (.slice (some ⟨g, 0, none⟩) 1 1) [r] := by
  refine .inr ⟨g, 0, 1, rfl, Nat.le_refl _, by decide, (Array.getElem?_eq_some_iff.1 h).1, fun j u hj => ?_⟩
  have hj0 : j = 0 := by
    have := (List.getElem?_eq_some_iff.1 hj).1
    simp at this; exact this
  subst hj0
  simp only [List.map_cons, List.map_nil, List.getElem?_cons_zero, Option.some.injEq] at hj
  subst hj
  simp [World.cell?, h, sv, ← hS]
theorem own_ne {w : World} {base : Nat} {e : TypeId} {v : Value} {L : List (List UInt8)} (h : Strs w base e v L) : v.ownBlock ≠ some w.heap.size := fun hk => Nat.lt_irrefl _ ((World.ownsRow.lt h) _ hk).2
theorem row_ne {w : World} {g : Nat} {ob : Obj} (h : w.heap[g]? = some ob) : Value.ownBlock (.slice (some ⟨w.heap.size, 0, none⟩) 0 0) ≠ some g := by
  intro e
  have := (Array.getElem?_eq_some_iff.1 h).1
  simp [Value.ownBlock] at e; omega

set_option maxRecDepth 100000 in
set_option maxHeartbeats 6400000 in
theorem headTakes_walk (v : Value) (L : List (List UInt8)) (s : ByteArray) (hs : s.size ≤ 1048576) (w : World) (hm : Ml w) (hv : RStrs w v L) (hbd : ∀ x ∈ L, x.length ≤ 1048576) (hLl : L.length ≤ 1048576) :
    Calls Tryd.prog 4 #[v, .string s] w fun e w' => e = .returned (.bool true) ∧ Below w.heap.size w w' := by
  have HM := Lib.hid hm
  have HV := Lib.hid hv
  have HBD := Lib.hid (fun x hx => show x.length ≤ 4294967280 from Nat.le_trans (hbd x hx) (by decide))
  obtain ⟨ao, cap, rfl, _, _⟩ := hv.form
  clear hm hv hbd
  have HT := Lib.hid (fun wx hx => type_c s (by omega) wx hx)
  have HA := Lib.hid (fun (vv : Value) (M : List (List UInt8)) wx hx hv hb => accepts_c vv M s (by omega) wx hx hv hb)
  have HW := Lib.hid (fun wx hx => awake_c wx hx)
  have hno := accepts_none L (us s)
  have hsn := accepts_snoc L (us s)
  have hpt := typeOk_parts (us s)
  obtain ⟨ty, hty⟩ : ∃ ty, ty = bs (typeOf (us s)) := ⟨_, rfl⟩
  obtain ⟨ok, hok⟩ : ∃ ok, ok = typeOk (us s) := ⟨_, rfl⟩
  rw [← hty, ← hok] at HT
  rw [← hok] at hno hsn hpt
  clear hok
  cases ok
  · have HA := Lib.hid (fun wx hx hv => HA.out (.slice ao L.length cap) L wx hx hv HBD.out)
    rw [hno rfl] at HA
    clear hno hsn hpt hty
    go_enter Tryd.func4, Tryd.ntmps4
    go_wp2_with (first | (go_at_call 11; refine (HT.out _ HM.out).mono ?_; rintro e w1 ⟨rfl, hB1⟩) | (go_at_call 13; refine (HA.out _ (HM.out.below hB1) (HV.out.below hB1 (Nat.le_refl _))).mono ?_; rintro e w3 ⟨rfl, hC3⟩; have hB3 := hB1.trans (hC3.mono hB1.size)) | (go_at_call 15; refine (HW.out _ (HM.out.below hB3)).mono ?_; rintro e w5 ⟨rfl, hC5⟩; have hB5 := hB3.trans (hC5.mono hB3.size)))
    go_ret
    exact ⟨rfl, hB5⟩
  · obtain ⟨a, b, e1, ha, hb, hc, _, _⟩ := hpt rfl
    have hsn := hsn rfl
    rw [hc] at hsn
    have uT : us ty = a ++ 47 :: b := by rw [hty, us_bs, e1]
    rw [e1] at hsn
    have la := token_short a ha
    have lb := token_short b hb
    have hsz : ty.size = a.length + 1 + b.length := by rw [← length_us, uT, List.length_append, List.length_cons]; omega
    have HAT := Lib.hid (at_ty ty a b uT ha)
    have HSN := Lib.hid hsn
    clear hno hpt hty hc hsn
    go_enter Tryd.func4, Tryd.ntmps4
    go_wp2_with (go_at_call 11; refine (HT.out _ HM.out).mono ?_; rintro e w1 ⟨rfl, hB1⟩)
    go_loopw [7] (fun i wr => ∃ k : Nat, k ≤ a.length ∧ i = .int .i64 k ∧ Drn w1 wr) (fun i _ => a.length + 1 - (intOf i).toNat)
    case atStart => exact ⟨0, Nat.zero_le _, rfl, Drn.refl _⟩
    case round =>
      obtain ⟨k, hk, rfl, hD⟩ := hrel
      have hB1 := hB1.trans hD.below
      have p1 : k < ty.size := by omega
      have hat := HAT.out k hk p1
      have q1 : (0 : Int) ≤ (k : Int) := by omega
      have q2 : (k : Int) < (ty.size : Int) := by omega
      by_cases hlt : k < a.length
      · have t1 : ((ty[k].toNat : Int) != 47) = true := by
          have : ¬ ty[k].toNat = 47 := fun e => by have := hat.1 e; omega
          simp; omega
        clear hat
        go_wp2
        go_roundw
        case rel => exact ⟨k + 1, by omega, by go_num, hD⟩
        case measure => simp [intOf]; omega
      · have hk' : k = a.length := by omega
        have t1 : ((ty[k].toNat : Int) != 47) = false := by
          have := hat.2 hk'
          simp; omega
        clear hat
        have q3 : (k : Int) ≤ (ty.size : Int) := by omega
        have hle : (ty.extract 0 k).size ≤ 64 := by rw [size_extract _ _ _ (by omega)]; omega
        obtain ⟨FR, hFR⟩ : ∃ FR, FR = ty.extract 0 k ++ ⟨#[47, 42]⟩ := ⟨_, rfl⟩
        have uF : us FR = a ++ [47, 42] := by rw [hFR, us_append, us_extract, uT, hk']; simp [us]
        have lF : FR.size ≤ 70 := by rw [← length_us, uF, List.length_append]; simp; omega
        clear hk'
        go_wp2
        obtain ⟨w2, hw2⟩ : ∃ w2, w2 = wr.alloc (.cells #[.string ty, .string (ty.extract 0 k ++ ⟨#[47, 42]⟩), .string ⟨#[42, 47, 42]⟩] 9) := ⟨_, rfl⟩
        have bk : Blk w2 wr.heap.size 9 #[.string ty, .string (ty.extract 0 k ++ ⟨#[47, 42]⟩), .string ⟨#[42, 47, 42]⟩] := by rw [hw2]; exact Blk.new _ _ _
        have hB2 : Below w.heap.size w w2 := by rw [hw2]; exact hB1.alloc hB1.size _
        rw [← hFR] at bk
        simp only [← hw2]
        clear hw2
        obtain ⟨G, hG⟩ : ∃ G, G = wr.heap.size := ⟨_, rfl⟩
        rw [← hG] at bk
        simp only [← hG]
        clear hG
        have HR := Lib.hid (fun (j : Nat) (hj : j < 3) (wx : World) (h : Below w2.heap.size w2 wx) => (show ∃ R : ByteArray, wx.cell? ⟨G, j, none⟩ = some (.string R) ∧ R.size ≤ 200 ∧ (us R = a ++ 47 :: b ∨ us R = a ++ [47, 42] ∨ us R = [42, 47, 42]) from by
          have b3 := bk.call h
          match j, hj with
          | 0, _ => exact ⟨ty, boxedCell b3 0, by omega, .inl uT⟩
          | 1, _ => exact ⟨FR, boxedCell b3 1, by omega, .inr (.inl uF)⟩
          | 2, _ => exact ⟨⟨#[42, 47, 42]⟩, boxedCell b3 2, by decide, .inr (.inr rfl)⟩))
        have hz2 : G < w2.heap.size := bk.lt
        have HVW := Lib.hid (fun (wx : World) (h : Below w2.heap.size w2 wx) => (HV.out.below (hB2.trans (h.mono hB2.size)) (Nat.le_refl _) : RStrs wx (.slice ao L.length cap) L))
        have HMW := Lib.hid (fun (wx : World) (h : Below w2.heap.size w2 wx) => HM.out.below (hB2.trans (h.mono hB2.size)))
        clear bk hFR uF lF
        go_loopw [9] (fun i w3 => ∃ k : Nat, k ≤ 3 ∧ i = .int .i64 k ∧ Below w2.heap.size w2 w3) (fun i _ => 4 - (intOf i).toNat)
        case atStart => exact ⟨0, by decide, rfl, Below.refl _ _⟩
        case round =>
          obtain ⟨j, hj, rfl, hBr⟩ := hrel
          by_cases hlt3 : j < 3
          · obtain ⟨R, xR, lR, uR⟩ := HR.out j hlt3 _ hBr
            have HR2 := Lib.hid (fun (wx : World) (h : Below w2.heap.size w2 wx) => (show wx.cell? ⟨G, j, none⟩ = some (.string R) from by rw [h.cell (p := ⟨G, j, none⟩) hz2, ← hBr.cell (p := ⟨G, j, none⟩) hz2]; exact xR))
            have hsnk := HSN.out (us R) [32, 113, 61, 49] uR
            have hS : us (R ++ ⟨#[32, 59, 32, 113, 61, 49]⟩) = us R ++ 32 :: 59 :: [32, 113, 61, 49] := by rw [us_append]; simp [us]
            have HAc := Lib.hid (fun wx vv hx hv => HA.out vv (L ++ [us R ++ 32 :: 59 :: [32, 113, 61, 49]]) wx hx hv (fun x hx => by
              rcases List.mem_append.1 hx with hx | hx
              · exact HBD.out x hx
              · simp only [List.mem_cons, List.not_mem_nil, or_false] at hx
                subst hx; rw [List.length_append, length_us]; simp; omega))
            rw [hsnk] at HAc
            have j0 : (0 : Int) ≤ (j : Int) := by omega
            have j3 : (j : Int) < 3 := by omega
            clear hsnk xR uR
            go_wp2
            · refine wp_region_any (by kernel_rfl) ?_
              try (change wpAny _ _ _ _ _ _ _ (World.drew _))
              obtain ⟨wc, hwc⟩ : ∃ wc, wc = World.drew wr := ⟨_, rfl⟩
              rw [← hwc]
              have hC : Below w2.heap.size w2 wc := by rw [hwc]; exact hBr.drew
              clear hwc
              first | (refine wpAny_take (i := 1) (v := undef) rfl (by kernel_rfl) (by kernel_rfl) (by kernel_rfl) (fun _ _ _ h => h) (Or.inr ⟨by rfl, rfl⟩) ?_) | (refine wpAny_take (i := 1) (v := ?_) rfl (by kernel_rfl) (by kernel_rfl) (by kernel_rfl) (fun _ _ _ h => h) ?_ ?_; rotate_left; focus (refine Or.inl ⟨by rfl, ?_⟩; intro _; go_simp; first | done | with_reducible rfl | (rw [if_neg (by omega)]; done) | (rw [if_neg (by omega)]; with_reducible rfl)))
              try go_simp
              first | (refine wpAny_take (i := 3) (v := undef) rfl (by kernel_rfl) (by kernel_rfl) (by kernel_rfl) (fun _ _ _ h => h) (Or.inr ⟨by rfl, rfl⟩) ?_) | (refine wpAny_take (i := 3) (v := ?_) rfl (by kernel_rfl) (by kernel_rfl) (by kernel_rfl) (fun _ _ _ h => h) ?_ ?_; rotate_left; focus (refine Or.inl ⟨by rfl, ?_⟩; intro _; go_simp; first | done | with_reducible rfl | (rw [if_neg (by omega)]; done) | (rw [if_neg (by omega)]; with_reducible rfl)))
              try go_simp
              first | (refine wpAny_take (i := 4) (v := undef) rfl (by kernel_rfl) (by kernel_rfl) (by kernel_rfl) (fun _ _ _ h => h) (Or.inr ⟨by rfl, rfl⟩) ?_) | (refine wpAny_take (i := 4) (v := ?_) rfl (by kernel_rfl) (by kernel_rfl) (by kernel_rfl) (fun _ _ _ h => h) ?_ ?_; rotate_left; focus (refine Or.inl ⟨by rfl, ?_⟩; intro _; go_simp; first | done | with_reducible rfl | (rw [if_neg (by omega)]; done) | (rw [if_neg (by omega)]; with_reducible rfl)))
              try go_simp
              first | (refine wpAny_take (i := 5) (v := undef) rfl (by kernel_rfl) (by kernel_rfl) (by kernel_rfl) (fun _ _ _ h => h) (Or.inr ⟨by rfl, rfl⟩) ?_) | (refine wpAny_take (i := 5) (v := ?_) rfl (by kernel_rfl) (by kernel_rfl) (by kernel_rfl) (fun _ _ _ h => h) ?_ ?_; rotate_left; focus (refine Or.inl ⟨by rfl, ?_⟩; intro _; go_simp; first | done | with_reducible rfl | (rw [if_neg (by omega)]; done) | (rw [if_neg (by omega)]; with_reducible rfl)))
              try go_simp
              first | (refine wpAny_take (i := 10) (v := undef) rfl (by kernel_rfl) (by kernel_rfl) (by kernel_rfl) (fun _ _ _ h => h) (Or.inr ⟨by rfl, rfl⟩) ?_) | (refine wpAny_take (i := 10) (v := ?_) rfl (by kernel_rfl) (by kernel_rfl) (by kernel_rfl) (fun _ _ _ h => h) ?_ ?_; rotate_left; focus (refine Or.inl ⟨by rfl, ?_⟩; intro _; go_simp; first | done | with_reducible rfl | (rw [if_neg (by omega)]; done) | (rw [if_neg (by omega)]; with_reducible rfl)))
              try go_simp
              refine wpAny_ready (rs := [0, 6]) (by kernel_rfl) (by simp) ?_
              refine AllReady.cons rfl (fun K hK => ?_) ?_
              ·
                go_simp
                try have hnb := row_ne hrow
                obtain ⟨wc, hwn, hBn, hC, hown⟩ : ∃ wn, wn = wc.alloc (.cells #[] 9) ∧ Below wc.heap.size wc wn ∧ Below w2.heap.size w2 wn ∧ Strs wn w2.heap.size 9 (.slice (some ⟨wc.heap.size, 0, none⟩) 0 0) [] := ⟨_, rfl, (Below.refl _ _).alloc (Nat.le_refl _) _, hC.alloc hC.size _, Strs.built _ _ _ hC.size⟩
                rw [← hwn]
                try replace hrow := (hBn.block _ (Array.getElem?_eq_some_iff.1 hrow).1).trans hrow
                clear hwn
                try go_simp
                refine hK _ _ ?_; clear hK K
                refine wpAny_ready (rs := [2, 6]) (by kernel_rfl) (by simp) ?_
                refine AllReady.cons rfl (fun K hK => ?_) ?_
                ·
                  refine step_appR (base := w2.heap.size) (wE := w2) rfl rfl Tryd.underlying22 infoS rfl (HVW.out wc hC) rfl hown hC (Nat.le_refl _) (by simp only [List.length_nil]; omega) ?_
                  intro vo wc hown hC hkp hszn
                  try replace hrow := hkp _ _ hrow hnb
                  clear hkp hszn
                  try go_simp
                  refine hK _ _ ?_; clear hK K
                  refine wpAny_ready (rs := [6]) (by kernel_rfl) (by simp) ?_
                  refine AllReady.cons rfl (fun K hK => ?_) ?_
                  ·
                    have xR := HR2.out wc hC
                    go_simp
                    try go_simp
                    refine hK _ _ ?_; clear hK K
                    first | (refine wpAny_take (i := 7) (v := undef) rfl (by kernel_rfl) (by kernel_rfl) (by kernel_rfl) (fun _ _ _ h => h) (Or.inr ⟨by rfl, rfl⟩) ?_) | (refine wpAny_take (i := 7) (v := ?_) rfl (by kernel_rfl) (by kernel_rfl) (by kernel_rfl) (fun _ _ _ h => h) ?_ ?_; rotate_left; focus (refine Or.inl ⟨by rfl, ?_⟩; intro _; go_simp; first | done | with_reducible rfl | (rw [if_neg (by omega)]; done) | (rw [if_neg (by omega)]; with_reducible rfl)))
                    try go_simp
                    refine wpAny_ready (rs := [8]) (by kernel_rfl) (by simp) ?_
                    refine AllReady.cons rfl (fun K hK => ?_) ?_
                    ·
                      go_simp
                      obtain ⟨wc, hwn, hBn, hC, hrow⟩ : ∃ wn, wn = wc.alloc (.cells #[.string (R ++ ⟨#[32, 59, 32, 113, 61, 49]⟩)] 9) ∧ Below wc.heap.size wc wn ∧ Below w2.heap.size w2 wn ∧ wn.heap[wc.heap.size]? = some (.cells #[.string (R ++ ⟨#[32, 59, 32, 113, 61, 49]⟩)] 9 (0, 0)) := ⟨_, rfl, (Below.refl _ _).alloc (Nat.le_refl _) _, hC.alloc hC.size _, heap_alloc_new _ _⟩
                      rw [← hwn]
                      try have hnb := own_ne hown
                      try replace hown := hown.below hBn (Nat.le_refl _)
                      clear hwn
                      try go_simp
                      refine hK _ _ ?_; clear hK K
                      refine wpAny_ready (rs := [9]) (by kernel_rfl) (by simp) ?_
                      refine AllReady.cons rfl (fun K hK => ?_) ?_
                      ·
                        refine step_appR (base := w2.heap.size) (wE := w2) rfl rfl Tryd.underlying22 infoS rfl (blk_row1 hrow hS) rfl hown hC (Nat.le_refl _) (by simp only [List.nil_append, List.length_cons, List.length_nil]; omega) ?_
                        intro vo wc hown hC hkp hszn
                        clear hkp hszn
                        try go_simp
                        refine hK _ _ ?_; clear hK K
                        refine wpAny_ready (rs := [11]) (by kernel_rfl) (by simp) ?_
                        refine AllReady.cons rfl (fun K hK => ?_) ?_
                        ·
                          refine step_wB2 rfl rfl Tryd.func13 nmAc bdAc rfl rfl (HAc.out wc _ (HMW.out wc hC) hown.read) ?_
                          intro wz hCz
                          have hC := hC.trans (hCz.mono hC.size)
                          try go_simp
                          refine hK _ _ ?_; clear hK K
                          first | (refine wpAny_take (i := 12) (v := undef) rfl (by kernel_rfl) (by kernel_rfl) (by kernel_rfl) (fun _ _ _ h => h) (Or.inr ⟨by rfl, rfl⟩) ?_) | (refine wpAny_take (i := 12) (v := ?_) rfl (by kernel_rfl) (by kernel_rfl) (by kernel_rfl) (fun _ _ _ h => h) ?_ ?_; rotate_left; focus (refine Or.inl ⟨by rfl, ?_⟩; intro _; go_simp; first | done | with_reducible rfl | (rw [if_neg (by omega)]; done) | (rw [if_neg (by omega)]; with_reducible rfl)))
                          try go_simp
                          refine wpAny_done (by kernel_rfl) ?_ _
                          go_wp2
                          go_roundw
                          case rel => exact ⟨j + 1, by omega, by go_num, hC⟩
                          case measure => simp [intOf]; omega
                        exact AllReady.nil
                      exact AllReady.nil
                    exact AllReady.nil
                  exact AllReady.nil
                refine AllReady.cons rfl (fun K hK => ?_) ?_
                ·
                  have xR := HR2.out wc hC
                  go_simp
                  try go_simp
                  refine hK _ _ ?_; clear hK K
                  first | (refine wpAny_take (i := 7) (v := undef) rfl (by kernel_rfl) (by kernel_rfl) (by kernel_rfl) (fun _ _ _ h => h) (Or.inr ⟨by rfl, rfl⟩) ?_) | (refine wpAny_take (i := 7) (v := ?_) rfl (by kernel_rfl) (by kernel_rfl) (by kernel_rfl) (fun _ _ _ h => h) ?_ ?_; rotate_left; focus (refine Or.inl ⟨by rfl, ?_⟩; intro _; go_simp; first | done | with_reducible rfl | (rw [if_neg (by omega)]; done) | (rw [if_neg (by omega)]; with_reducible rfl)))
                  try go_simp
                  refine wpAny_ready (rs := [2, 8]) (by kernel_rfl) (by simp) ?_
                  refine AllReady.cons rfl (fun K hK => ?_) ?_
                  ·
                    refine step_appR (base := w2.heap.size) (wE := w2) rfl rfl Tryd.underlying22 infoS rfl (HVW.out wc hC) rfl hown hC (Nat.le_refl _) (by simp only [List.length_nil]; omega) ?_
                    intro vo wc hown hC hkp hszn
                    try replace hrow := hkp _ _ hrow hnb
                    clear hkp hszn
                    try go_simp
                    refine hK _ _ ?_; clear hK K
                    refine wpAny_ready (rs := [8]) (by kernel_rfl) (by simp) ?_
                    refine AllReady.cons rfl (fun K hK => ?_) ?_
                    ·
                      go_simp
                      obtain ⟨wc, hwn, hBn, hC, hrow⟩ : ∃ wn, wn = wc.alloc (.cells #[.string (R ++ ⟨#[32, 59, 32, 113, 61, 49]⟩)] 9) ∧ Below wc.heap.size wc wn ∧ Below w2.heap.size w2 wn ∧ wn.heap[wc.heap.size]? = some (.cells #[.string (R ++ ⟨#[32, 59, 32, 113, 61, 49]⟩)] 9 (0, 0)) := ⟨_, rfl, (Below.refl _ _).alloc (Nat.le_refl _) _, hC.alloc hC.size _, heap_alloc_new _ _⟩
                      rw [← hwn]
                      try have hnb := own_ne hown
                      try replace hown := hown.below hBn (Nat.le_refl _)
                      clear hwn
                      try go_simp
                      refine hK _ _ ?_; clear hK K
                      refine wpAny_ready (rs := [9]) (by kernel_rfl) (by simp) ?_
                      refine AllReady.cons rfl (fun K hK => ?_) ?_
                      ·
                        refine step_appR (base := w2.heap.size) (wE := w2) rfl rfl Tryd.underlying22 infoS rfl (blk_row1 hrow hS) rfl hown hC (Nat.le_refl _) (by simp only [List.nil_append, List.length_cons, List.length_nil]; omega) ?_
                        intro vo wc hown hC hkp hszn
                        clear hkp hszn
                        try go_simp
                        refine hK _ _ ?_; clear hK K
                        refine wpAny_ready (rs := [11]) (by kernel_rfl) (by simp) ?_
                        refine AllReady.cons rfl (fun K hK => ?_) ?_
                        ·
                          refine step_wB2 rfl rfl Tryd.func13 nmAc bdAc rfl rfl (HAc.out wc _ (HMW.out wc hC) hown.read) ?_
                          intro wz hCz
                          have hC := hC.trans (hCz.mono hC.size)
                          try go_simp
                          refine hK _ _ ?_; clear hK K
                          first | (refine wpAny_take (i := 12) (v := undef) rfl (by kernel_rfl) (by kernel_rfl) (by kernel_rfl) (fun _ _ _ h => h) (Or.inr ⟨by rfl, rfl⟩) ?_) | (refine wpAny_take (i := 12) (v := ?_) rfl (by kernel_rfl) (by kernel_rfl) (by kernel_rfl) (fun _ _ _ h => h) ?_ ?_; rotate_left; focus (refine Or.inl ⟨by rfl, ?_⟩; intro _; go_simp; first | done | with_reducible rfl | (rw [if_neg (by omega)]; done) | (rw [if_neg (by omega)]; with_reducible rfl)))
                          try go_simp
                          refine wpAny_done (by kernel_rfl) ?_ _
                          go_wp2
                          go_roundw
                          case rel => exact ⟨j + 1, by omega, by go_num, hC⟩
                          case measure => simp [intOf]; omega
                        exact AllReady.nil
                      exact AllReady.nil
                    exact AllReady.nil
                  refine AllReady.cons rfl (fun K hK => ?_) ?_
                  ·
                    go_simp
                    obtain ⟨wc, hwn, hBn, hC, hrow⟩ : ∃ wn, wn = wc.alloc (.cells #[.string (R ++ ⟨#[32, 59, 32, 113, 61, 49]⟩)] 9) ∧ Below wc.heap.size wc wn ∧ Below w2.heap.size w2 wn ∧ wn.heap[wc.heap.size]? = some (.cells #[.string (R ++ ⟨#[32, 59, 32, 113, 61, 49]⟩)] 9 (0, 0)) := ⟨_, rfl, (Below.refl _ _).alloc (Nat.le_refl _) _, hC.alloc hC.size _, heap_alloc_new _ _⟩
                    rw [← hwn]
                    try have hnb := own_ne hown
                    try replace hown := hown.below hBn (Nat.le_refl _)
                    clear hwn
                    try go_simp
                    refine hK _ _ ?_; clear hK K
                    refine wpAny_ready (rs := [2]) (by kernel_rfl) (by simp) ?_
                    refine AllReady.cons rfl (fun K hK => ?_) ?_
                    ·
                      refine step_appR (base := w2.heap.size) (wE := w2) rfl rfl Tryd.underlying22 infoS rfl (HVW.out wc hC) rfl hown hC (Nat.le_refl _) (by simp only [List.length_nil]; omega) ?_
                      intro vo wc hown hC hkp hszn
                      try replace hrow := hkp _ _ hrow hnb
                      clear hkp hszn
                      try go_simp
                      refine hK _ _ ?_; clear hK K
                      refine wpAny_ready (rs := [9]) (by kernel_rfl) (by simp) ?_
                      refine AllReady.cons rfl (fun K hK => ?_) ?_
                      ·
                        refine step_appR (base := w2.heap.size) (wE := w2) rfl rfl Tryd.underlying22 infoS rfl (blk_row1 hrow hS) rfl hown hC (Nat.le_refl _) (by simp only [List.nil_append, List.length_cons, List.length_nil]; omega) ?_
                        intro vo wc hown hC hkp hszn
                        clear hkp hszn
                        try go_simp
                        refine hK _ _ ?_; clear hK K
                        refine wpAny_ready (rs := [11]) (by kernel_rfl) (by simp) ?_
                        refine AllReady.cons rfl (fun K hK => ?_) ?_
                        ·
                          refine step_wB2 rfl rfl Tryd.func13 nmAc bdAc rfl rfl (HAc.out wc _ (HMW.out wc hC) hown.read) ?_
                          intro wz hCz
                          have hC := hC.trans (hCz.mono hC.size)
                          try go_simp
                          refine hK _ _ ?_; clear hK K
                          first | (refine wpAny_take (i := 12) (v := undef) rfl (by kernel_rfl) (by kernel_rfl) (by kernel_rfl) (fun _ _ _ h => h) (Or.inr ⟨by rfl, rfl⟩) ?_) | (refine wpAny_take (i := 12) (v := ?_) rfl (by kernel_rfl) (by kernel_rfl) (by kernel_rfl) (fun _ _ _ h => h) ?_ ?_; rotate_left; focus (refine Or.inl ⟨by rfl, ?_⟩; intro _; go_simp; first | done | with_reducible rfl | (rw [if_neg (by omega)]; done) | (rw [if_neg (by omega)]; with_reducible rfl)))
                          try go_simp
                          refine wpAny_done (by kernel_rfl) ?_ _
                          go_wp2
                          go_roundw
                          case rel => exact ⟨j + 1, by omega, by go_num, hC⟩
                          case measure => simp [intOf]; omega
                        exact AllReady.nil
                      exact AllReady.nil
                    exact AllReady.nil
                  exact AllReady.nil
                exact AllReady.nil
              refine AllReady.cons rfl (fun K hK => ?_) ?_
              ·
                have xR := HR2.out wc hC
                go_simp
                try go_simp
                refine hK _ _ ?_; clear hK K
                first | (refine wpAny_take (i := 7) (v := undef) rfl (by kernel_rfl) (by kernel_rfl) (by kernel_rfl) (fun _ _ _ h => h) (Or.inr ⟨by rfl, rfl⟩) ?_) | (refine wpAny_take (i := 7) (v := ?_) rfl (by kernel_rfl) (by kernel_rfl) (by kernel_rfl) (fun _ _ _ h => h) ?_ ?_; rotate_left; focus (refine Or.inl ⟨by rfl, ?_⟩; intro _; go_simp; first | done | with_reducible rfl | (rw [if_neg (by omega)]; done) | (rw [if_neg (by omega)]; with_reducible rfl)))
                try go_simp
                refine wpAny_ready (rs := [0, 8]) (by kernel_rfl) (by simp) ?_
                refine AllReady.cons rfl (fun K hK => ?_) ?_
                ·
                  go_simp
                  try have hnb := row_ne hrow
                  obtain ⟨wc, hwn, hBn, hC, hown⟩ : ∃ wn, wn = wc.alloc (.cells #[] 9) ∧ Below wc.heap.size wc wn ∧ Below w2.heap.size w2 wn ∧ Strs wn w2.heap.size 9 (.slice (some ⟨wc.heap.size, 0, none⟩) 0 0) [] := ⟨_, rfl, (Below.refl _ _).alloc (Nat.le_refl _) _, hC.alloc hC.size _, Strs.built _ _ _ hC.size⟩
                  rw [← hwn]
                  try replace hrow := (hBn.block _ (Array.getElem?_eq_some_iff.1 hrow).1).trans hrow
                  clear hwn
                  try go_simp
                  refine hK _ _ ?_; clear hK K
                  refine wpAny_ready (rs := [2, 8]) (by kernel_rfl) (by simp) ?_
                  refine AllReady.cons rfl (fun K hK => ?_) ?_
                  ·
                    refine step_appR (base := w2.heap.size) (wE := w2) rfl rfl Tryd.underlying22 infoS rfl (HVW.out wc hC) rfl hown hC (Nat.le_refl _) (by simp only [List.length_nil]; omega) ?_
                    intro vo wc hown hC hkp hszn
                    try replace hrow := hkp _ _ hrow hnb
                    clear hkp hszn
                    try go_simp
                    refine hK _ _ ?_; clear hK K
                    refine wpAny_ready (rs := [8]) (by kernel_rfl) (by simp) ?_
                    refine AllReady.cons rfl (fun K hK => ?_) ?_
                    ·
                      go_simp
                      obtain ⟨wc, hwn, hBn, hC, hrow⟩ : ∃ wn, wn = wc.alloc (.cells #[.string (R ++ ⟨#[32, 59, 32, 113, 61, 49]⟩)] 9) ∧ Below wc.heap.size wc wn ∧ Below w2.heap.size w2 wn ∧ wn.heap[wc.heap.size]? = some (.cells #[.string (R ++ ⟨#[32, 59, 32, 113, 61, 49]⟩)] 9 (0, 0)) := ⟨_, rfl, (Below.refl _ _).alloc (Nat.le_refl _) _, hC.alloc hC.size _, heap_alloc_new _ _⟩
                      rw [← hwn]
                      try have hnb := own_ne hown
                      try replace hown := hown.below hBn (Nat.le_refl _)
                      clear hwn
                      try go_simp
                      refine hK _ _ ?_; clear hK K
                      refine wpAny_ready (rs := [9]) (by kernel_rfl) (by simp) ?_
                      refine AllReady.cons rfl (fun K hK => ?_) ?_
                      ·
                        refine step_appR (base := w2.heap.size) (wE := w2) rfl rfl Tryd.underlying22 infoS rfl (blk_row1 hrow hS) rfl hown hC (Nat.le_refl _) (by simp only [List.nil_append, List.length_cons, List.length_nil]; omega) ?_
                        intro vo wc hown hC hkp hszn
                        clear hkp hszn
                        try go_simp
                        refine hK _ _ ?_; clear hK K
                        refine wpAny_ready (rs := [11]) (by kernel_rfl) (by simp) ?_
                        refine AllReady.cons rfl (fun K hK => ?_) ?_
                        ·
                          refine step_wB2 rfl rfl Tryd.func13 nmAc bdAc rfl rfl (HAc.out wc _ (HMW.out wc hC) hown.read) ?_
                          intro wz hCz
                          have hC := hC.trans (hCz.mono hC.size)
                          try go_simp
                          refine hK _ _ ?_; clear hK K
                          first | (refine wpAny_take (i := 12) (v := undef) rfl (by kernel_rfl) (by kernel_rfl) (by kernel_rfl) (fun _ _ _ h => h) (Or.inr ⟨by rfl, rfl⟩) ?_) | (refine wpAny_take (i := 12) (v := ?_) rfl (by kernel_rfl) (by kernel_rfl) (by kernel_rfl) (fun _ _ _ h => h) ?_ ?_; rotate_left; focus (refine Or.inl ⟨by rfl, ?_⟩; intro _; go_simp; first | done | with_reducible rfl | (rw [if_neg (by omega)]; done) | (rw [if_neg (by omega)]; with_reducible rfl)))
                          try go_simp
                          refine wpAny_done (by kernel_rfl) ?_ _
                          go_wp2
                          go_roundw
                          case rel => exact ⟨j + 1, by omega, by go_num, hC⟩
                          case measure => simp [intOf]; omega
                        exact AllReady.nil
                      exact AllReady.nil
                    exact AllReady.nil
                  refine AllReady.cons rfl (fun K hK => ?_) ?_
                  ·
                    go_simp
                    obtain ⟨wc, hwn, hBn, hC, hrow⟩ : ∃ wn, wn = wc.alloc (.cells #[.string (R ++ ⟨#[32, 59, 32, 113, 61, 49]⟩)] 9) ∧ Below wc.heap.size wc wn ∧ Below w2.heap.size w2 wn ∧ wn.heap[wc.heap.size]? = some (.cells #[.string (R ++ ⟨#[32, 59, 32, 113, 61, 49]⟩)] 9 (0, 0)) := ⟨_, rfl, (Below.refl _ _).alloc (Nat.le_refl _) _, hC.alloc hC.size _, heap_alloc_new _ _⟩
                    rw [← hwn]
                    try have hnb := own_ne hown
                    try replace hown := hown.below hBn (Nat.le_refl _)
                    clear hwn
                    try go_simp
                    refine hK _ _ ?_; clear hK K
                    refine wpAny_ready (rs := [2]) (by kernel_rfl) (by simp) ?_
                    refine AllReady.cons rfl (fun K hK => ?_) ?_
                    ·
                      refine step_appR (base := w2.heap.size) (wE := w2) rfl rfl Tryd.underlying22 infoS rfl (HVW.out wc hC) rfl hown hC (Nat.le_refl _) (by simp only [List.length_nil]; omega) ?_
                      intro vo wc hown hC hkp hszn
                      try replace hrow := hkp _ _ hrow hnb
                      clear hkp hszn
                      try go_simp
                      refine hK _ _ ?_; clear hK K
                      refine wpAny_ready (rs := [9]) (by kernel_rfl) (by simp) ?_
                      refine AllReady.cons rfl (fun K hK => ?_) ?_
                      ·
                        refine step_appR (base := w2.heap.size) (wE := w2) rfl rfl Tryd.underlying22 infoS rfl (blk_row1 hrow hS) rfl hown hC (Nat.le_refl _) (by simp only [List.nil_append, List.length_cons, List.length_nil]; omega) ?_
                        intro vo wc hown hC hkp hszn
                        clear hkp hszn
                        try go_simp
                        refine hK _ _ ?_; clear hK K
                        refine wpAny_ready (rs := [11]) (by kernel_rfl) (by simp) ?_
                        refine AllReady.cons rfl (fun K hK => ?_) ?_
                        ·
                          refine step_wB2 rfl rfl Tryd.func13 nmAc bdAc rfl rfl (HAc.out wc _ (HMW.out wc hC) hown.read) ?_
                          intro wz hCz
                          have hC := hC.trans (hCz.mono hC.size)
                          try go_simp
                          refine hK _ _ ?_; clear hK K
                          first | (refine wpAny_take (i := 12) (v := undef) rfl (by kernel_rfl) (by kernel_rfl) (by kernel_rfl) (fun _ _ _ h => h) (Or.inr ⟨by rfl, rfl⟩) ?_) | (refine wpAny_take (i := 12) (v := ?_) rfl (by kernel_rfl) (by kernel_rfl) (by kernel_rfl) (fun _ _ _ h => h) ?_ ?_; rotate_left; focus (refine Or.inl ⟨by rfl, ?_⟩; intro _; go_simp; first | done | with_reducible rfl | (rw [if_neg (by omega)]; done) | (rw [if_neg (by omega)]; with_reducible rfl)))
                          try go_simp
                          refine wpAny_done (by kernel_rfl) ?_ _
                          go_wp2
                          go_roundw
                          case rel => exact ⟨j + 1, by omega, by go_num, hC⟩
                          case measure => simp [intOf]; omega
                        exact AllReady.nil
                      exact AllReady.nil
                    exact AllReady.nil
                  exact AllReady.nil
                refine AllReady.cons rfl (fun K hK => ?_) ?_
                ·
                  go_simp
                  obtain ⟨wc, hwn, hBn, hC, hrow⟩ : ∃ wn, wn = wc.alloc (.cells #[.string (R ++ ⟨#[32, 59, 32, 113, 61, 49]⟩)] 9) ∧ Below wc.heap.size wc wn ∧ Below w2.heap.size w2 wn ∧ wn.heap[wc.heap.size]? = some (.cells #[.string (R ++ ⟨#[32, 59, 32, 113, 61, 49]⟩)] 9 (0, 0)) := ⟨_, rfl, (Below.refl _ _).alloc (Nat.le_refl _) _, hC.alloc hC.size _, heap_alloc_new _ _⟩
                  rw [← hwn]
                  try have hnb := own_ne hown
                  try replace hown := hown.below hBn (Nat.le_refl _)
                  clear hwn
                  try go_simp
                  refine hK _ _ ?_; clear hK K
                  refine wpAny_ready (rs := [0]) (by kernel_rfl) (by simp) ?_
                  refine AllReady.cons rfl (fun K hK => ?_) ?_
                  ·
                    go_simp
                    try have hnb := row_ne hrow
                    obtain ⟨wc, hwn, hBn, hC, hown⟩ : ∃ wn, wn = wc.alloc (.cells #[] 9) ∧ Below wc.heap.size wc wn ∧ Below w2.heap.size w2 wn ∧ Strs wn w2.heap.size 9 (.slice (some ⟨wc.heap.size, 0, none⟩) 0 0) [] := ⟨_, rfl, (Below.refl _ _).alloc (Nat.le_refl _) _, hC.alloc hC.size _, Strs.built _ _ _ hC.size⟩
                    rw [← hwn]
                    try replace hrow := (hBn.block _ (Array.getElem?_eq_some_iff.1 hrow).1).trans hrow
                    clear hwn
                    try go_simp
                    refine hK _ _ ?_; clear hK K
                    refine wpAny_ready (rs := [2]) (by kernel_rfl) (by simp) ?_
                    refine AllReady.cons rfl (fun K hK => ?_) ?_
                    ·
                      refine step_appR (base := w2.heap.size) (wE := w2) rfl rfl Tryd.underlying22 infoS rfl (HVW.out wc hC) rfl hown hC (Nat.le_refl _) (by simp only [List.length_nil]; omega) ?_
                      intro vo wc hown hC hkp hszn
                      try replace hrow := hkp _ _ hrow hnb
                      clear hkp hszn
                      try go_simp
                      refine hK _ _ ?_; clear hK K
                      refine wpAny_ready (rs := [9]) (by kernel_rfl) (by simp) ?_
                      refine AllReady.cons rfl (fun K hK => ?_) ?_
                      ·
                        refine step_appR (base := w2.heap.size) (wE := w2) rfl rfl Tryd.underlying22 infoS rfl (blk_row1 hrow hS) rfl hown hC (Nat.le_refl _) (by simp only [List.nil_append, List.length_cons, List.length_nil]; omega) ?_
                        intro vo wc hown hC hkp hszn
                        clear hkp hszn
                        try go_simp
                        refine hK _ _ ?_; clear hK K
                        refine wpAny_ready (rs := [11]) (by kernel_rfl) (by simp) ?_
                        refine AllReady.cons rfl (fun K hK => ?_) ?_
                        ·
                          refine step_wB2 rfl rfl Tryd.func13 nmAc bdAc rfl rfl (HAc.out wc _ (HMW.out wc hC) hown.read) ?_
                          intro wz hCz
                          have hC := hC.trans (hCz.mono hC.size)
                          try go_simp
                          refine hK _ _ ?_; clear hK K
                          first | (refine wpAny_take (i := 12) (v := undef) rfl (by kernel_rfl) (by kernel_rfl) (by kernel_rfl) (fun _ _ _ h => h) (Or.inr ⟨by rfl, rfl⟩) ?_) | (refine wpAny_take (i := 12) (v := ?_) rfl (by kernel_rfl) (by kernel_rfl) (by kernel_rfl) (fun _ _ _ h => h) ?_ ?_; rotate_left; focus (refine Or.inl ⟨by rfl, ?_⟩; intro _; go_simp; first | done | with_reducible rfl | (rw [if_neg (by omega)]; done) | (rw [if_neg (by omega)]; with_reducible rfl)))
                          try go_simp
                          refine wpAny_done (by kernel_rfl) ?_ _
                          go_wp2
                          go_roundw
                          case rel => exact ⟨j + 1, by omega, by go_num, hC⟩
                          case measure => simp [intOf]; omega
                        exact AllReady.nil
                      exact AllReady.nil
                    exact AllReady.nil
                  exact AllReady.nil
                exact AllReady.nil
              exact AllReady.nil
          · have j3 : ¬ ((j : Int) < 3) := by omega
            have HAn := Lib.hid (fun wx hx => HA.out (.slice none 0 0) [] wx hx (.inl ⟨⟨_, _, rfl⟩, rfl, rfl⟩) (fun x hx => by cases hx))
            rw [show acceptsS [] (us s) = false from rfl] at HAn
            have hBw := hB2.trans (hBr.mono hB2.size)
            go_wp2_with (first | (go_at_call 13; refine (HAn.out _ (HMW.out _ hBr)).mono ?_; rintro e w4 ⟨rfl, hC4⟩; have hBw := hBw.trans (hC4.mono hBw.size)) | (go_at_call 15; refine (HW.out _ (HM.out.below hBw)).mono ?_; rintro e w5 ⟨rfl, hC5⟩; have hBw := hBw.trans (hC5.mono hBw.size)))
            go_ret
            exact ⟨rfl, hBw⟩

end Go.Proofs.YteiafgoigfehgaaDoor
