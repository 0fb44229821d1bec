/-
  The law ViaSpread: the walk.
-/
import Derived.Test.YtjohecbmeoalaaaDoorSpS
import Derived.Test.YtjohecbmeoalaaaDoorVls
namespace Go.Proofs.YtjohecbmeoalaaaDoor
open Go.RowKit

/-- what stands behind the loop: the message n and its row, beside all that stood -/
def SprF (wr : World) (nB : Nat) (nh : Value) (N : List Hdr) (W : World) : Prop :=
  Blk W nB 35 #[.string ⟨#[]⟩, .string ⟨#[]⟩, .int .i64 0, .string ⟨#[]⟩, nh, .string ⟨#[]⟩] ∧ Hdrs W wr.heap.size nh N ∧ Below wr.heap.size wr W
theorem SprF.call {wr W W' : World} {nB : Nat} {nh : Value} {N : List Hdr} (h : SprF wr nB nh N W) (hB : Below W.heap.size W W') : SprF wr nB nh N W' := by
  obtain ⟨h4, h5, h6⟩ := h
  exact ⟨h4.call hB, h5.below hB (Nat.le_refl _), h6.trans (hB.mono h6.size)⟩
theorem SprF.drew {wr W : World} {nB : Nat} {nh : Value} {N : List Hdr} (h : SprF wr nB nh N W) : SprF wr nB nh N W.drew := ⟨h.1, h.2.1, h.2.2.trans (Drn.below ⟨1, rfl⟩)⟩
theorem SprF.store {wr W W1 : World} {nB : Nat} {nh v' : Value} {N M : List Hdr} (h : SprF wr nB nh N W) (hk : Kept 37 W W1) (ho : Hdrs W1 wr.heap.size v' M) (hB : Below wr.heap.size wr W1) (hn : wr.heap.size ≤ nB) : SprF wr nB v' M (W1.setCell ⟨nB, 4, none⟩ v') := by
  have b4 := hk.blk h.1 (by decide)
  exact ⟨b4.set_ 4 v', own_set ho b4 (by decide), hB.setCell hn _⟩
theorem textsB (L : List Hop) (h16 : L.length ≤ 16) (hv : ∀ v ∈ L, checkV v = 0) (sep : List UInt8) (K : Nat) (hs : sep.length ≤ 3) : (glue sep ((L.map textV).take K)).length ≤ 140737488355328 ∧ (glue sep ((L.map textV).drop K)).length ≤ 140737488355328 := by
  have hl : ∀ x ∈ L.map textV, x.length ≤ 4000 := by
    intro x hx
    obtain ⟨v, hm, rfl⟩ := List.mem_map.1 hx
    exact textV_len v (hv v hm)
  have h1 := glue_leV sep 4000 ((L.map textV).take K) (fun x hx => hl x (List.mem_of_mem_take hx))
  have h2 := glue_leV sep 4000 ((L.map textV).drop K) (fun x hx => hl x (List.mem_of_mem_drop hx))
  have h3 : ((L.map textV).take K).length ≤ L.length := by rw [List.length_take, List.length_map]; omega
  have h4 : ((L.map textV).drop K).length ≤ L.length := by rw [List.length_drop, List.length_map]; omega
  have h5 : ((L.map textV).take K).length * (4000 + sep.length) ≤ 16 * 4003 := Nat.mul_le_mul (by omega) (by omega)
  have h6 : ((L.map textV).drop K).length * (4000 + sep.length) ≤ 16 * 4003 := Nat.mul_le_mul (by omega) (by omega)
  omega
theorem viaB (L : List Hop) (hv : ∀ v ∈ L, checkV v = 0) : ∀ h ∈ L.map viaH, h.name.length ≤ 1048576 ∧ h.value.length ≤ 1048576 := by
  intro h hh
  obtain ⟨v, hm, rfl⟩ := List.mem_map.1 hh
  have := textV_len v (hv v hm)
  exact ⟨(show nVia.length ≤ 1048576 by decide), by show (textV v).length ≤ 1048576; omega⟩
theorem hdrsB (L : List Hop) (K : Nat) (h16 : L.length ≤ 16) (hv : ∀ v ∈ L, checkV v = 0) : (∀ h ∈ [hTo] ++ [hA L K], h.name.length ≤ 1048576 ∧ h.value.length ≤ 1048576) ∧ (∀ h ∈ [hTo] ++ [hB L K], h.name.length ≤ 1048576 ∧ h.value.length ≤ 1048576) ∧ (∀ h ∈ [hTo] ++ [hA L K] ++ [hB L K], h.name.length ≤ 1048576 ∧ h.value.length ≤ 1048576) := by
  have hl : ∀ x ∈ L.map textV, x.length ≤ 4000 := by
    intro x hx
    obtain ⟨v, hm, rfl⟩ := List.mem_map.1 hx
    exact textV_len v (hv v hm)
  have a1 := glue_leV [44] 4000 ((L.map textV).take K) (fun x hx => hl x (List.mem_of_mem_take hx))
  have a2 := glue_leV [32, 44, 32] 4000 ((L.map textV).drop K) (fun x hx => hl x (List.mem_of_mem_drop hx))
  have h3 : ((L.map textV).take K).length ≤ L.length := by rw [List.length_take, List.length_map]; omega
  have h4 : ((L.map textV).drop K).length ≤ L.length := by rw [List.length_drop, List.length_map]; omega
  have h5 : ((L.map textV).take K).length * (4000 + [44].length) ≤ 16 * 4003 := Nat.mul_le_mul (by omega) (by decide)
  have h6 : ((L.map textV).drop K).length * (4000 + [32, 44, 32].length) ≤ 16 * 4003 := Nat.mul_le_mul (by omega) (by decide)
  have t0 : hTo.name.length ≤ 1048576 ∧ hTo.value.length ≤ 1048576 := by decide
  have t1 : (hA L K).name.length ≤ 1048576 ∧ (hA L K).value.length ≤ 1048576 := ⟨(by decide : [86, 73, 65].length ≤ 1048576), by show (glue [44] _).length ≤ _; omega⟩
  have t2 : (hB L K).name.length ≤ 1048576 ∧ (hB L K).value.length ≤ 1048576 := ⟨(by decide : [118, 105, 97].length ≤ 1048576), by show (glue [32, 44, 32] _).length ≤ _; omega⟩
  refine ⟨fun h hh => ?_, fun h hh => ?_, fun h hh => ?_⟩ <;> simp only [List.mem_append, List.mem_singleton] at hh
  · rcases hh with rfl | rfl <;> assumption
  · rcases hh with rfl | rfl <;> assumption
  · rcases hh with (rfl | rfl) | rfl <;> assumption
theorem hdr_built (w : World) (base : Nat) (N V : ByteArray) (p : Hdr) (hN : us N = p.name) (hV : us V = p.value) (hb : base ≤ w.heap.size) : Hdrs (w.alloc (.cells #[.string N, .string V] 37)) base (.slice (some ⟨w.heap.size, 0, none⟩) 1 1) [p] := by
  refine ⟨rfl, .inr ⟨w.heap.size, 1, #[.string N, .string V], rfl, hb, by unfold World.alloc; simp, Nat.le_refl _, by decide, rfl, ?_⟩⟩
  simp [Hdr.cells, sv, ← hN, ← hV]

set_option maxRecDepth 100000 in
set_option maxHeartbeats 12800000 in
theorem viaSpread_walk (v : Value) (L : List Hop) (c : Int) (hc0 : 0 ≤ c) (hc1 : c ≤ 18446744073709551615) (w : World) (hm : Ml w) (hv : RHops w v L)
    (hb : ∀ v ∈ L, v.host.length ≤ 1048576 ∧ (-9223372036854775808 ≤ v.port ∧ v.port ≤ 9223372036854775807) ∧ ∀ p ∈ v.ps, p.name.length ≤ 1048576 ∧ p.value.length ≤ 1048576) (hl : L.length ≤ 1048576) :
    Calls Tryd.prog 8 #[v, .int .u64 c] w fun e w' => e = .returned (.bool true) ∧ Below w.heap.size w w' := by
  have HM := Lib.hid hm
  have HV := Lib.hid hv
  obtain ⟨ao, cap, rfl, hm1, c1⟩ := hv.form
  have C1 := Lib.hid c1
  have HBD := Lib.hid hb
  have HA := Lib.hid (fun wx hx => awake_c wx hx)
  unfold maxLen at hm1
  clear c1 hv hb hm
  by_cases h0 : L.length < 1
  case pos =>
    go_enter Tryd.func8, Tryd.ntmps8
    go_wp2_with (first | (go_at_call 9; refine (HA.out _ HM.out).mono ?_; rintro e wz ⟨rfl, hCz⟩))
    go_ret
    exact ⟨rfl, hCz⟩
  by_cases h1 : 16 < L.length
  case pos =>
    go_enter Tryd.func8, Tryd.ntmps8
    go_wp2_with (first | (go_at_call 9; refine (HA.out _ HM.out).mono ?_; rintro e wz ⟨rfl, hCz⟩))
    go_ret
    exact ⟨rfl, hCz⟩
  go_enter Tryd.func8, Tryd.ntmps8
  go_wp2
  go_loopw [5, 7] (fun v i wr => ∃ (k : Nat) (hv : Value), k ≤ L.length ∧ i = .int .i64 k ∧ Strs wr w.heap.size 9 v ((L.take k).map textV) ∧ Blk wr w.heap.size 35 #[.string ⟨#[]⟩, .string ⟨#[]⟩, .int .i64 0, .string ⟨#[]⟩, hv, .string ⟨#[]⟩] ∧ Hdrs wr w.heap.size hv ((L.take k).map viaH) ∧ Hid (Below w.heap.size w wr) ∧ Hid (∀ x ∈ L.take k, checkV x = 0)) (fun _ i _ => L.length - (intOf i).toNat)
  case atStart => exact ⟨0, .slice none 0 0, Nat.zero_le _, rfl, Strs.nil _ _ _, Blk.new _ _ _, Hdrs.nil _ _, Lib.hid ((Below.refl _ _).alloc (Nat.le_refl _) _), Lib.hid (fun x hx => by simp at hx)⟩
  case round =>
    obtain ⟨k, hv, hk, rfl, ho, bm, hh, HB, HC⟩ := hrel
    by_cases hlt : k < L.length
    · obtain ⟨b, off, rfl, hb1, hc1'⟩ := C1.out (by omega)
      obtain ⟨x0, x1, u, x2, hu⟩ := hc1' k hlt
      have hbr : b < wr.heap.size := Nat.lt_of_lt_of_le hb1 HB.out.size
      rw [← HB.out.cell (p := ⟨b, off + k * 3, none⟩) hb1] at x0
      rw [← HB.out.cell (p := ⟨b, off + k * 3 + 1, none⟩) hb1] at x1
      rw [← HB.out.cell (p := ⟨b, off + k * 3 + 2, none⟩) hb1] at x2
      have hu := hu.below HB.out (Nat.le_refl _)
      have hbd := HBD.out _ (List.getElem_mem hlt)
      obtain ⟨au, cu, rfl, _, _⟩ := hu.form
      have HP := Lib.hid (fun wx hx (hux : RPrms wx (.slice au L[k].ps.length cu) L[k].ps) => printV_c (bs L[k].host) L[k].port (.slice au L[k].ps.length cu) L[k].ps (by rw [size_bs]; have := hbd.1; omega) hbd.2.1.1 hbd.2.1.2 wx hx hux (fun p hp => by have := hbd.2.2 p hp; omega))
      rw [us_bs] at HP
      have hpe : (⟨L[k].host, L[k].port, L[k].ps⟩ : Hop) = L[k] := rfl
      rw [hpe] at HP
      have hpc : ((printV L[k]).2 ≠ 0) ∨ ((printV L[k]) = (textV L[k], 0) ∧ checkV L[k] = 0) := by
        unfold printV
        by_cases h : checkV L[k] = 0
        · exact .inr ⟨if_pos h, h⟩
        · exact .inl (by rw [if_neg h]; exact h)
      have htl : checkV L[k] = 0 → (textV L[k]).length ≤ 4000 := textV_len L[k]
      obtain ⟨N, hN⟩ : ∃ N, N = bs L[k].host := ⟨_, rfl⟩
      rw [show sv L[k].host = .string (bs L[k].host) from rfl] at x0
      rw [← hN] at x0 HP
      obtain ⟨pn, hpn⟩ : ∃ p, p = L[k].port := ⟨_, rfl⟩
      rw [← hpn] at x1 HP
      have HU := Lib.hid hu
      obtain ⟨nl, hnl⟩ : ∃ n, n = L[k].ps.length := ⟨_, rfl⟩
      rw [← hnl] at x2 HP
      have k0 : (0 : Int) ≤ (k : Int) := by omega
      have k1 : (k : Int) < (L.length : Int) := by omega
      have ho1' := ho
      have HOK := Lib.hid ho
      clear ho1' hN hpn hc1' hb1 hbd hpe
      obtain ⟨q, hq⟩ : ∃ q, q = printV L[k] := ⟨_, rfl⟩
      rw [← hq] at HP hpc
      have hu : RPrms wr (.slice au nl cu) L[k].ps := by rw [hnl]; exact HU.out
      clear hq
      by_cases hbig : 100 < nl
      · have HTT := Lib.hid hpc
        have HLL := Lib.hid htl
        have HNL := Lib.hid hnl
        clear hpc htl hnl
        go_wp2_with (first | (go_at_call 16; refine (HP.out _ (HM.out.below HB.out) hu).mono ?_; rintro e w1 ⟨rfl, hC1⟩; have hB1 := HB.out.trans (hC1.mono HB.out.size); have y2 := (hC1.cell (p := ⟨b, off + k * 3 + 2, none⟩) hbr).trans x2) | (go_at_call 9; refine (HA.out _ (HM.out.below hB1)).mono ?_; rintro e wz ⟨rfl, hCz⟩))
        go_ret
        exact ⟨rfl, hB1.trans (hCz.mono hB1.size)⟩
      · have HNL := Lib.hid hnl
        clear hnl
        rcases hpc with hne | ⟨rfl, hck⟩
        · have t0 : (q.2 != 0) = true := by simpa using hne
          clear hne htl
          obtain ⟨qs, qe⟩ := q
          dsimp only at t0 HP
          go_wp2_with (first | (go_at_call 16; refine (HP.out _ (HM.out.below HB.out) hu).mono ?_; rintro e w1 ⟨rfl, hC1⟩; have hB1 := HB.out.trans (hC1.mono HB.out.size); have y2 := (hC1.cell (p := ⟨b, off + k * 3 + 2, none⟩) hbr).trans x2) | (go_at_call 9; refine (HA.out _ (HM.out.below hB1)).mono ?_; rintro e wz ⟨rfl, hCz⟩))
          go_ret
          exact ⟨rfl, hB1.trans (hCz.mono hB1.size)⟩
        · have htl := htl hck
          dsimp only at HP
          obtain ⟨TX, hTX⟩ : ∃ T, T = bs (textV L[k]) := ⟨_, rfl⟩
          have HTu := Lib.hid (show us TX = textV L[k] by rw [hTX, us_bs])
          have hTs : TX.size ≤ 4000 := by rw [hTX, size_bs]; exact htl
          rw [← hTX] at HP
          have HCK := Lib.hid hck
          have HE3 := Lib.hid (show (L.take (k + 1)).map viaH = (L.take k).map viaH ++ [viaH L[k]] by rw [List.take_succ_eq_append_getElem hlt, List.map_append]; rfl)
          have HL3 := Lib.hid (show ((L.take k).map viaH ++ [viaH L[k]]).length = k + 1 by rw [List.length_append, List.length_map, List.length_take]; simp; omega)
          clear hTX htl hck
          go_wp2_with (first | ((go_at_call 16; refine (HP.out _ (HM.out.below HB.out) hu).mono ?_; rintro e w1 ⟨rfl, hC1⟩; have hB1 := HB.out.trans (hC1.mono HB.out.size); have y2 := (hC1.cell (p := ⟨b, off + k * 3 + 2, none⟩) hbr).trans x2); have ho1 := ho.below hC1 (Nat.le_refl _)) | (at_builtin; refine wpList_appK_S (textV L[k]) HTu.out rfl rfl Tryd.underlying56 infoS rfl rfl ho1 hB1 (Nat.le_refl _) ?_ ?_; (focus (rw [List.length_map, List.length_take]; omega)); intro v2 w2 ho2 hb2 hk2; have bm2 := hk2.blk (bm.call hC1) (by decide); have hh2 := own_kept (hh.below hC1 (Nat.le_refl _)) hk2 (by decide); have m4 := boxedCell bm2 4; have z2 := bm2.lt) | (at_builtin; refine wpList_appKH (viaH L[k]) rfl HTu.out rfl rfl Tryd.underlying33 infoH rfl rfl hh2 hb2 (Nat.le_refl _) ?_ ?_; (focus (rw [List.length_map, List.length_take]; omega)); intro v3 w3 ho3 hb3 hk3; have bm3 := hk3.blk bm2 (by decide); have ht3 := own_kept ho2 hk3 (by decide); have m4' := boxedCell bm3 4; have f4 := boxedFree bm3 4; have z3 := bm3.lt; obtain ⟨hx3, hp3, rfl, _⟩ := Hdrs.len ho3))
          go_roundw
          case rel => exact ⟨k + 1, _, by omega, by go_num, by (rw [List.take_succ_eq_append_getElem hlt, List.map_append]; exact own_set ht3 bm3 (by decide)), bm3.set_ 4 _, by (rw [HE3.out]; have h3 := ho3; rw [HL3.out] at h3; exact own_set h3 bm3 (by decide)), Lib.hid (hb3.setCell (Nat.le_refl _) _), Lib.hid (fun x hx => by rw [List.take_succ_eq_append_getElem hlt] at hx; rcases List.mem_append.1 hx with h | h; exact HC.out x h; rw [List.mem_singleton.1 h]; exact HCK.out)⟩
          case measure => simp [intOf]; omega
    · have hkL : k = L.length := by omega
      subst hkL
      rw [List.take_of_length_le (Nat.le_refl _)] at ho hh HC
      have hml : (L.map textV).length = L.length := List.length_map _
      obtain ⟨tb, to_, tcap, rfl, ht1, ht2, ht3, _⟩ : ∃ b off cap, u5 = .slice (some ⟨b, off, none⟩) L.length cap ∧ L.length ≤ cap ∧ cap ≤ maxLen ∧ b < wr.heap.size ∧ True := by
        rcases ho.read.cases with ⟨_, h⟩ | ⟨b, off, cap, h1, h2, h3, h4, _⟩
        · have := congrArg List.length h; rw [hml, List.length_nil] at this; omega
        · rw [hml] at h1 h2; exact ⟨b, off, cap, h1, h2, h3, h4, trivial⟩
      unfold maxLen at ht2
      obtain ⟨KX, hK, hKL⟩ : ∃ KX : Nat, c % ((L.length : Int) + 1) = (KX : Int) ∧ KX ≤ L.length := ⟨(c % ((L.length : Int) + 1)).toNat, (Int.toNat_of_nonneg (Int.emod_nonneg _ (by omega))).symm, by have := Int.emod_lt_of_pos c (show (0 : Int) < (L.length : Int) + 1 by omega); have h2 := Int.emod_nonneg c (show (L.length : Int) + 1 ≠ 0 by omega); omega⟩
      have HTL := Lib.hid (textsB L (by omega) HC.out)
      have hgz : w.heap.size < wr.heap.size := bm.lt
      have HHO := Lib.hid ho
      have HSM := Lib.hid (spread_m L HC.out (by omega) (by omega))
      have HSN := Lib.hid (spread_n L KX HC.out (by omega) (by omega))
      have HMR := Lib.hid (fun wx (h : Below wr.heap.size wr wx) => (show Ml wx from HM.out.below (HB.out.trans (h.mono HB.out.size))))
      have HVR := Lib.hid (fun wx (h : Below wr.heap.size wr wx) => (show RHops wx (.slice ao L.length cap) L from HV.out.below (HB.out.trans (h.mono HB.out.size)) (Nat.le_refl _)))
      have HG1 := Lib.hid (fun wx (h : Below wr.heap.size wr wx) => glue_c (.slice (some ⟨tb, to_, none⟩) KX tcap) ((L.map textV).take KX) ⟨#[44]⟩ wx ((HHO.out.below h (Nat.le_refl _)).read.takeK KX hKL) (HTL.out [44] KX (by decide)).1)
      have HG2 := Lib.hid (fun wx (h : Below wr.heap.size wr wx) (hk : KX < L.length) => glue_c (.slice (some ⟨tb, to_ + KX, none⟩) (L.length - KX) (tcap - KX)) ((L.map textV).drop KX) ⟨#[32, 44, 32]⟩ wx ((HHO.out.below h (Nat.le_refl _)).read.dropK KX hk) (HTL.out [32, 44, 32] KX (by decide)).2)
      rw [show us ⟨#[44]⟩ = [44] from rfl] at HG1
      rw [show us ⟨#[32, 44, 32]⟩ = [32, 44, 32] from rfl] at HG2
      obtain ⟨G1, hG1⟩ : ∃ G, G = bs (glue [44] ((L.map textV).take KX)) := ⟨_, rfl⟩
      obtain ⟨G2, hG2⟩ : ∃ G, G = bs (glue [32, 44, 32] ((L.map textV).drop KX)) := ⟨_, rfl⟩
      have HU1 := Lib.hid (show us G1 = (hA L KX).value by rw [hG1, us_bs]; rfl)
      have HU2 := Lib.hid (show us G2 = (hB L KX).value by rw [hG2, us_bs]; rfl)
      rw [← hG1] at HG1
      rw [← hG2] at HG2
      obtain ⟨mo, mc, rfl, _⟩ := Hdrs.len hh
      rw [List.length_map] at hh bm
      have HBM := Lib.hid bm
      have HHH := Lib.hid hh
      have HLm := Lib.hid (fun wx hx (h : Below wr.heap.size wr wx) => list_c ⟨#[]⟩ ⟨#[]⟩ ⟨#[]⟩ ⟨#[]⟩ 0 (.slice mo L.length mc) (L.map viaH) wx hx ((HHH.out.below h (Nat.le_refl _)).read) (viaB L HC.out) (by rw [List.length_map]; omega))
      rw [HSM.out] at HLm
      have HBm := Lib.hid (fun wx (h : Below wr.heap.size wr wx) => (show Blk wx w.heap.size 35 #[.string ⟨#[]⟩, .string ⟨#[]⟩, .int .i64 0, .string ⟨#[]⟩, (.slice mo L.length mc), .string ⟨#[]⟩] from HBM.out.below h hgz))
      clear hml hG1 hG2 ho hh bm
      rcases Nat.eq_zero_or_pos KX with h0KX | h0KX
      · subst h0KX
        have hKlt : 0 < L.length := by omega
        have hcm : c % ((L.length : Int) + 1) = 0 := hK
        have HNB := Lib.hid (hdrsB L 0 (by omega) HC.out).2.1
        have HSN := Lib.hid (show listV (allS ([hTo] ++ [hB L 0]) nVia) = (L, 0) by have := HSN.out; rw [if_neg (by omega), if_pos hKlt] at this; simpa using this)
        have k2 : (0 : Int) < (L.length : Int) := by omega
        clear hK
        go_wp2
        obtain ⟨W, eW⟩ : ∃ x, x = (wr.alloc (.cells #[.string ⟨#[84, 111]⟩, .string ⟨#[120]⟩] 37)).alloc (.cells #[.string ⟨#[]⟩, .string ⟨#[]⟩, .int .i64 0, .string ⟨#[]⟩, (.slice (some ⟨wr.heap.size, 0, none⟩) 1 1), .string ⟨#[]⟩] 35) := ⟨_, rfl⟩
        have hF : SprF wr (wr.heap.size + 1) (.slice (some ⟨wr.heap.size, 0, none⟩) 1 1) [hTo] W := by
          rw [eW]
          refine ⟨?_, (hdr_built wr wr.heap.size ⟨#[84, 111]⟩ ⟨#[120]⟩ hTo rfl rfl (Nat.le_refl _)).below ((Below.refl _ _).alloc (Nat.le_refl _) _) (Nat.le_refl _), ((Below.refl _ _).alloc (Nat.le_refl _) _).alloc (by rw [World.size_alloc]; omega) _⟩
          rw [show wr.heap.size + 1 = (wr.alloc (.cells #[.string ⟨#[84, 111]⟩, .string ⟨#[120]⟩] 37)).heap.size from (World.size_alloc _ _).symm]
          exact Blk.new _ _ _
        try simp only [← eW]
        clear eW
        have m4 := boxedCell hF.1 4
        refine wp_region_any (by kernel_rfl) ?_
        try (change wpAny _ _ _ _ _ _ _ (World.drew _))
        obtain ⟨W1, e1⟩ : ∃ x, x = World.drew W := ⟨_, rfl⟩
        have hF := hF.drew
        rw [← e1] at hF ⊢
        clear e1 m4
        first | (refine wpAny_take (i := 0) (v := undef) rfl (by kernel_rfl) (by kernel_rfl) (by kernel_rfl) (fun _ _ _ h => h) (Or.inr ⟨by rfl, rfl⟩) ?_) | (refine wpAny_take (i := 0) (v := ?_) rfl (by kernel_rfl) (by kernel_rfl) (by kernel_rfl) (fun _ _ _ h => h) ?_ ?_; rotate_left; focus (refine Or.inl ⟨by rfl, ?_⟩; intro _; go_simp; first | done | with_reducible rfl | (rw [if_neg (by omega)]; done) | (rw [if_neg (by omega)]; with_reducible rfl)))
        try go_simp
        first | (refine wpAny_take (i := 2) (v := undef) rfl (by kernel_rfl) (by kernel_rfl) (by kernel_rfl) (fun _ _ _ h => h) (Or.inr ⟨by rfl, rfl⟩) ?_) | (refine wpAny_take (i := 2) (v := ?_) rfl (by kernel_rfl) (by kernel_rfl) (by kernel_rfl) (fun _ _ _ h => h) ?_ ?_; rotate_left; focus (refine Or.inl ⟨by rfl, ?_⟩; intro _; go_simp; first | done | with_reducible rfl | (rw [if_neg (by omega)]; done) | (rw [if_neg (by omega)]; with_reducible rfl)))
        try go_simp
        first | (refine wpAny_take (i := 3) (v := undef) rfl (by kernel_rfl) (by kernel_rfl) (by kernel_rfl) (fun _ _ _ h => h) (Or.inr ⟨by rfl, rfl⟩) ?_) | (refine wpAny_take (i := 3) (v := ?_) rfl (by kernel_rfl) (by kernel_rfl) (by kernel_rfl) (fun _ _ _ h => h) ?_ ?_; rotate_left; focus (refine Or.inl ⟨by rfl, ?_⟩; intro _; go_simp; first | done | with_reducible rfl | (rw [if_neg (by omega)]; done) | (rw [if_neg (by omega)]; with_reducible rfl)))
        try go_simp
        first | (refine wpAny_take (i := 4) (v := undef) rfl (by kernel_rfl) (by kernel_rfl) (by kernel_rfl) (fun _ _ _ h => h) (Or.inr ⟨by rfl, rfl⟩) ?_) | (refine wpAny_take (i := 4) (v := ?_) rfl (by kernel_rfl) (by kernel_rfl) (by kernel_rfl) (fun _ _ _ h => h) ?_ ?_; rotate_left; focus (refine Or.inl ⟨by rfl, ?_⟩; intro _; go_simp; first | done | with_reducible rfl | (rw [if_neg (by omega)]; done) | (rw [if_neg (by omega)]; with_reducible rfl)))
        try go_simp
        refine wpAny_ready (rs := [1, 5]) (by kernel_rfl) (by simp) ?_
        refine AllReady.cons rfl (fun K hK => ?_) ?_
        ·
          have m4 := boxedCell hF.1 4
          try go_simp
          refine hK _ _ ?_; clear hK K
          refine wpAny_ready (rs := [5]) (by kernel_rfl) (by simp) ?_
          refine AllReady.cons rfl (fun K hK => ?_) ?_
          ·
            refine step_wB2 (by rfl) rfl Tryd.func24 nmGl bdGl rfl rfl (HG2.out _ hF.2.2 hKlt) ?_; intro W2 hB2
            have hF := hF.call hB2
            try go_simp
            refine hK _ _ ?_; clear hK K
            first | (refine wpAny_take (i := 6) (v := undef) rfl (by kernel_rfl) (by kernel_rfl) (by kernel_rfl) (fun _ _ _ h => h) (Or.inr ⟨by rfl, rfl⟩) ?_) | (refine wpAny_take (i := 6) (v := ?_) rfl (by kernel_rfl) (by kernel_rfl) (by kernel_rfl) (fun _ _ _ h => h) ?_ ?_; rotate_left; focus (refine Or.inl ⟨by rfl, ?_⟩; intro _; go_simp; first | done | with_reducible rfl | (rw [if_neg (by omega)]; done) | (rw [if_neg (by omega)]; with_reducible rfl)))
            try go_simp
            refine wpAny_ready (rs := [7]) (by kernel_rfl) (by simp) ?_
            refine AllReady.cons rfl (fun K hK => ?_) ?_
            ·
              have m4a := boxedCell (hF.1.alloc (.cells #[.string ⟨#[118, 105, 97]⟩, .string G2] 37)) 4
              try go_simp
              refine hK _ _ ?_; clear hK K
              refine wpAny_ready (rs := [8]) (by kernel_rfl) (by simp) ?_
              refine AllReady.cons rfl (fun K hK => ?_) ?_
              ·
                refine step_of rfl (op_appKH (hB L 0) rfl HU2.out rfl Tryd.underlying33 infoH rfl rfl hF.2.1 hF.2.2 (Nat.le_refl _) (by simp) ?_); intro v' W3 ho3 hb3 hk3
                obtain ⟨xo, xc, rfl, _⟩ := Hdrs.len ho3
                have bm3 := hk3.blk hF.1 (by decide)
                have m5 := boxedCell bm3 4
                have f5 := boxedFree bm3 4
                have z5 := bm3.lt
                have hF := hF.store hk3 ho3 hb3 (Nat.le_succ _)
                clear bm3
                try go_simp
                refine hK _ _ ?_; clear hK K
                first | (refine wpAny_take (i := 9) (v := undef) rfl (by kernel_rfl) (by kernel_rfl) (by kernel_rfl) (fun _ _ _ h => h) (Or.inr ⟨by rfl, rfl⟩) ?_) | (refine wpAny_take (i := 9) (v := ?_) rfl (by kernel_rfl) (by kernel_rfl) (by kernel_rfl) (fun _ _ _ h => h) ?_ ?_; rotate_left; focus (refine Or.inl ⟨by rfl, ?_⟩; intro _; go_simp; first | done | with_reducible rfl | (rw [if_neg (by omega)]; done) | (rw [if_neg (by omega)]; with_reducible rfl)))
                try go_simp
                refine wpAny_ready (rs := [10]) (by kernel_rfl) (by simp) ?_
                refine AllReady.cons rfl (fun K hK => ?_) ?_
                ·
                  go_simp
                  refine hK _ _ ?_; clear hK K
                  refine wpAny_done (by kernel_rfl) ?_ _
                  have hF : SprF wr (wr.heap.size + 1) (.slice xo 2 xc) ([hTo] ++ [hB L 0]) (W3.setCell ⟨wr.heap.size + 1, 4, none⟩ (.slice xo 2 xc)) := hF
                  obtain ⟨W, eW⟩ : ∃ x, x = W3.setCell ⟨wr.heap.size + 1, 4, none⟩ (.slice xo 2 xc) := ⟨_, rfl⟩
                  rw [← eW] at hF
                  try simp only [← eW]
                  clear eW ho3 hb3 hk3
                  have hX := hF.2.2
                  have HLn := Lib.hid (fun wx hx hu => list_c ⟨#[]⟩ ⟨#[]⟩ ⟨#[]⟩ ⟨#[]⟩ 0 (.slice xo 2 xc) ([hTo] ++ [hB L 0]) wx hx hu (HNB.out) (by simp))
                  rw [HSN.out] at HLn
                  have bmm := HBm.out _ hX
                  obtain ⟨p0, p1, p2, p3, p4, p5⟩ := Blk.f6 bmm
                  obtain ⟨q0, q1, q2, q3, q4, q5⟩ := Blk.f6 hF.1
                  clear bmm
                  go_wp2_with (first | (go_at_call 13; ((with_reducible refine (HLm.out _ (HMR.out _ hX) hX).mono ?_); rintro e w1 ⟨va, rfl, hva, hC1⟩); have hF := hF.call hC1; have hX := hX.trans (hC1.mono hX.size); obtain ⟨q0, q1, q2, q3, q4, q5⟩ := Blk.f6 hF.1; have hNr := hF.2.1.read) | (go_at_call 13; ((with_reducible refine (HLn.out _ (HMR.out _ hX) hNr).mono ?_); rintro e w2 ⟨vb, rfl, hvb, hC2⟩); have hX := hX.trans (hC2.mono hX.size); have hva := hva.below hC2 (Nat.le_refl _)) | (go_at_call 15; ((with_reducible refine (allV_c va (.slice ao L.length cap) L _ hva (HVR.out _ hX)).mono ?_); rintro e w3 ⟨rfl, hC3⟩); have hvb := hvb.below hC3 (Nat.le_refl _); have hX := hX.trans (hC3.mono hX.size)) | (go_at_call 15; ((with_reducible refine (allV_c vb (.slice ao L.length cap) L _ hvb (HVR.out _ hX)).mono ?_); rintro e w4 ⟨rfl, hC4⟩); have hX := hX.trans (hC4.mono hX.size)) | (go_at_call 9; refine (HA.out _ (HMR.out _ hX)).mono ?_; rintro e wz ⟨rfl, hCz⟩))
                  go_ret
                  exact ⟨rfl, HB.out.trans ((hX.trans (hCz.mono hX.size)).mono HB.out.size)⟩
                exact AllReady.nil
              exact AllReady.nil
            exact AllReady.nil
          exact AllReady.nil
        refine AllReady.cons rfl (fun K hK => ?_) ?_
        ·
          refine step_wB2 (by rfl) rfl Tryd.func24 nmGl bdGl rfl rfl (HG2.out _ hF.2.2 hKlt) ?_; intro W2 hB2
          have hF := hF.call hB2
          try go_simp
          refine hK _ _ ?_; clear hK K
          first | (refine wpAny_take (i := 6) (v := undef) rfl (by kernel_rfl) (by kernel_rfl) (by kernel_rfl) (fun _ _ _ h => h) (Or.inr ⟨by rfl, rfl⟩) ?_) | (refine wpAny_take (i := 6) (v := ?_) rfl (by kernel_rfl) (by kernel_rfl) (by kernel_rfl) (fun _ _ _ h => h) ?_ ?_; rotate_left; focus (refine Or.inl ⟨by rfl, ?_⟩; intro _; go_simp; first | done | with_reducible rfl | (rw [if_neg (by omega)]; done) | (rw [if_neg (by omega)]; with_reducible rfl)))
          try go_simp
          refine wpAny_ready (rs := [1, 7]) (by kernel_rfl) (by simp) ?_
          refine AllReady.cons rfl (fun K hK => ?_) ?_
          ·
            have m4 := boxedCell hF.1 4
            try go_simp
            refine hK _ _ ?_; clear hK K
            refine wpAny_ready (rs := [7]) (by kernel_rfl) (by simp) ?_
            refine AllReady.cons rfl (fun K hK => ?_) ?_
            ·
              have m4a := boxedCell (hF.1.alloc (.cells #[.string ⟨#[118, 105, 97]⟩, .string G2] 37)) 4
              try go_simp
              refine hK _ _ ?_; clear hK K
              refine wpAny_ready (rs := [8]) (by kernel_rfl) (by simp) ?_
              refine AllReady.cons rfl (fun K hK => ?_) ?_
              ·
                refine step_of rfl (op_appKH (hB L 0) rfl HU2.out rfl Tryd.underlying33 infoH rfl rfl hF.2.1 hF.2.2 (Nat.le_refl _) (by simp) ?_); intro v' W3 ho3 hb3 hk3
                obtain ⟨xo, xc, rfl, _⟩ := Hdrs.len ho3
                have bm3 := hk3.blk hF.1 (by decide)
                have m5 := boxedCell bm3 4
                have f5 := boxedFree bm3 4
                have z5 := bm3.lt
                have hF := hF.store hk3 ho3 hb3 (Nat.le_succ _)
                clear bm3
                try go_simp
                refine hK _ _ ?_; clear hK K
                first | (refine wpAny_take (i := 9) (v := undef) rfl (by kernel_rfl) (by kernel_rfl) (by kernel_rfl) (fun _ _ _ h => h) (Or.inr ⟨by rfl, rfl⟩) ?_) | (refine wpAny_take (i := 9) (v := ?_) rfl (by kernel_rfl) (by kernel_rfl) (by kernel_rfl) (fun _ _ _ h => h) ?_ ?_; rotate_left; focus (refine Or.inl ⟨by rfl, ?_⟩; intro _; go_simp; first | done | with_reducible rfl | (rw [if_neg (by omega)]; done) | (rw [if_neg (by omega)]; with_reducible rfl)))
                try go_simp
                refine wpAny_ready (rs := [10]) (by kernel_rfl) (by simp) ?_
                refine AllReady.cons rfl (fun K hK => ?_) ?_
                ·
                  go_simp
                  refine hK _ _ ?_; clear hK K
                  refine wpAny_done (by kernel_rfl) ?_ _
                  have hF : SprF wr (wr.heap.size + 1) (.slice xo 2 xc) ([hTo] ++ [hB L 0]) (W3.setCell ⟨wr.heap.size + 1, 4, none⟩ (.slice xo 2 xc)) := hF
                  obtain ⟨W, eW⟩ : ∃ x, x = W3.setCell ⟨wr.heap.size + 1, 4, none⟩ (.slice xo 2 xc) := ⟨_, rfl⟩
                  rw [← eW] at hF
                  try simp only [← eW]
                  clear eW ho3 hb3 hk3
                  have hX := hF.2.2
                  have HLn := Lib.hid (fun wx hx hu => list_c ⟨#[]⟩ ⟨#[]⟩ ⟨#[]⟩ ⟨#[]⟩ 0 (.slice xo 2 xc) ([hTo] ++ [hB L 0]) wx hx hu (HNB.out) (by simp))
                  rw [HSN.out] at HLn
                  have bmm := HBm.out _ hX
                  obtain ⟨p0, p1, p2, p3, p4, p5⟩ := Blk.f6 bmm
                  obtain ⟨q0, q1, q2, q3, q4, q5⟩ := Blk.f6 hF.1
                  clear bmm
                  go_wp2_with (first | (go_at_call 13; ((with_reducible refine (HLm.out _ (HMR.out _ hX) hX).mono ?_); rintro e w1 ⟨va, rfl, hva, hC1⟩); have hF := hF.call hC1; have hX := hX.trans (hC1.mono hX.size); obtain ⟨q0, q1, q2, q3, q4, q5⟩ := Blk.f6 hF.1; have hNr := hF.2.1.read) | (go_at_call 13; ((with_reducible refine (HLn.out _ (HMR.out _ hX) hNr).mono ?_); rintro e w2 ⟨vb, rfl, hvb, hC2⟩); have hX := hX.trans (hC2.mono hX.size); have hva := hva.below hC2 (Nat.le_refl _)) | (go_at_call 15; ((with_reducible refine (allV_c va (.slice ao L.length cap) L _ hva (HVR.out _ hX)).mono ?_); rintro e w3 ⟨rfl, hC3⟩); have hvb := hvb.below hC3 (Nat.le_refl _); have hX := hX.trans (hC3.mono hX.size)) | (go_at_call 15; ((with_reducible refine (allV_c vb (.slice ao L.length cap) L _ hvb (HVR.out _ hX)).mono ?_); rintro e w4 ⟨rfl, hC4⟩); have hX := hX.trans (hC4.mono hX.size)) | (go_at_call 9; refine (HA.out _ (HMR.out _ hX)).mono ?_; rintro e wz ⟨rfl, hCz⟩))
                  go_ret
                  exact ⟨rfl, HB.out.trans ((hX.trans (hCz.mono hX.size)).mono HB.out.size)⟩
                exact AllReady.nil
              exact AllReady.nil
            exact AllReady.nil
          refine AllReady.cons rfl (fun K hK => ?_) ?_
          ·
            have m4a := boxedCell (hF.1.alloc (.cells #[.string ⟨#[118, 105, 97]⟩, .string G2] 37)) 4
            try go_simp
            refine hK _ _ ?_; clear hK K
            refine wpAny_ready (rs := [1]) (by kernel_rfl) (by simp) ?_
            refine AllReady.cons rfl (fun K hK => ?_) ?_
            ·
              have m4 := boxedCell hF.1 4
              try go_simp
              refine hK _ _ ?_; clear hK K
              refine wpAny_ready (rs := [8]) (by kernel_rfl) (by simp) ?_
              refine AllReady.cons rfl (fun K hK => ?_) ?_
              ·
                refine step_of rfl (op_appKH (hB L 0) rfl HU2.out rfl Tryd.underlying33 infoH rfl rfl hF.2.1 hF.2.2 (Nat.le_refl _) (by simp) ?_); intro v' W3 ho3 hb3 hk3
                obtain ⟨xo, xc, rfl, _⟩ := Hdrs.len ho3
                have bm3 := hk3.blk hF.1 (by decide)
                have m5 := boxedCell bm3 4
                have f5 := boxedFree bm3 4
                have z5 := bm3.lt
                have hF := hF.store hk3 ho3 hb3 (Nat.le_succ _)
                clear bm3
                try go_simp
                refine hK _ _ ?_; clear hK K
                first | (refine wpAny_take (i := 9) (v := undef) rfl (by kernel_rfl) (by kernel_rfl) (by kernel_rfl) (fun _ _ _ h => h) (Or.inr ⟨by rfl, rfl⟩) ?_) | (refine wpAny_take (i := 9) (v := ?_) rfl (by kernel_rfl) (by kernel_rfl) (by kernel_rfl) (fun _ _ _ h => h) ?_ ?_; rotate_left; focus (refine Or.inl ⟨by rfl, ?_⟩; intro _; go_simp; first | done | with_reducible rfl | (rw [if_neg (by omega)]; done) | (rw [if_neg (by omega)]; with_reducible rfl)))
                try go_simp
                refine wpAny_ready (rs := [10]) (by kernel_rfl) (by simp) ?_
                refine AllReady.cons rfl (fun K hK => ?_) ?_
                ·
                  go_simp
                  refine hK _ _ ?_; clear hK K
                  refine wpAny_done (by kernel_rfl) ?_ _
                  have hF : SprF wr (wr.heap.size + 1) (.slice xo 2 xc) ([hTo] ++ [hB L 0]) (W3.setCell ⟨wr.heap.size + 1, 4, none⟩ (.slice xo 2 xc)) := hF
                  obtain ⟨W, eW⟩ : ∃ x, x = W3.setCell ⟨wr.heap.size + 1, 4, none⟩ (.slice xo 2 xc) := ⟨_, rfl⟩
                  rw [← eW] at hF
                  try simp only [← eW]
                  clear eW ho3 hb3 hk3
                  have hX := hF.2.2
                  have HLn := Lib.hid (fun wx hx hu => list_c ⟨#[]⟩ ⟨#[]⟩ ⟨#[]⟩ ⟨#[]⟩ 0 (.slice xo 2 xc) ([hTo] ++ [hB L 0]) wx hx hu (HNB.out) (by simp))
                  rw [HSN.out] at HLn
                  have bmm := HBm.out _ hX
                  obtain ⟨p0, p1, p2, p3, p4, p5⟩ := Blk.f6 bmm
                  obtain ⟨q0, q1, q2, q3, q4, q5⟩ := Blk.f6 hF.1
                  clear bmm
                  go_wp2_with (first | (go_at_call 13; ((with_reducible refine (HLm.out _ (HMR.out _ hX) hX).mono ?_); rintro e w1 ⟨va, rfl, hva, hC1⟩); have hF := hF.call hC1; have hX := hX.trans (hC1.mono hX.size); obtain ⟨q0, q1, q2, q3, q4, q5⟩ := Blk.f6 hF.1; have hNr := hF.2.1.read) | (go_at_call 13; ((with_reducible refine (HLn.out _ (HMR.out _ hX) hNr).mono ?_); rintro e w2 ⟨vb, rfl, hvb, hC2⟩); have hX := hX.trans (hC2.mono hX.size); have hva := hva.below hC2 (Nat.le_refl _)) | (go_at_call 15; ((with_reducible refine (allV_c va (.slice ao L.length cap) L _ hva (HVR.out _ hX)).mono ?_); rintro e w3 ⟨rfl, hC3⟩); have hvb := hvb.below hC3 (Nat.le_refl _); have hX := hX.trans (hC3.mono hX.size)) | (go_at_call 15; ((with_reducible refine (allV_c vb (.slice ao L.length cap) L _ hvb (HVR.out _ hX)).mono ?_); rintro e w4 ⟨rfl, hC4⟩); have hX := hX.trans (hC4.mono hX.size)) | (go_at_call 9; refine (HA.out _ (HMR.out _ hX)).mono ?_; rintro e wz ⟨rfl, hCz⟩))
                  go_ret
                  exact ⟨rfl, HB.out.trans ((hX.trans (hCz.mono hX.size)).mono HB.out.size)⟩
                exact AllReady.nil
              exact AllReady.nil
            exact AllReady.nil
          exact AllReady.nil
        exact AllReady.nil
      · by_cases hKlt : KX < L.length
        · have k0 : (0 : Int) < (KX : Int) := by omega
          have k3 : (KX : Int) ≤ (tcap : Int) := by omega
          have k1 : (KX : Int) ≤ (L.length : Int) := by omega
          have hKlt : KX < L.length := by omega
          have hcc : ¬ (tcap = KX) := by omega
          have k2 : (KX : Int) < (L.length : Int) := by omega
          have HNB := Lib.hid (hdrsB L KX (by omega) HC.out).2.2
          have HSN := Lib.hid (show listV (allS ([hTo] ++ [hA L KX] ++ [hB L KX]) nVia) = (L, 0) by have := HSN.out; rw [if_pos h0KX, if_pos hKlt] at this; exact this)
          go_wp2
          obtain ⟨W, eW⟩ : ∃ x, x = (wr.alloc (.cells #[.string ⟨#[84, 111]⟩, .string ⟨#[120]⟩] 37)).alloc (.cells #[.string ⟨#[]⟩, .string ⟨#[]⟩, .int .i64 0, .string ⟨#[]⟩, (.slice (some ⟨wr.heap.size, 0, none⟩) 1 1), .string ⟨#[]⟩] 35) := ⟨_, rfl⟩
          have hF : SprF wr (wr.heap.size + 1) (.slice (some ⟨wr.heap.size, 0, none⟩) 1 1) [hTo] W := by
            rw [eW]
            refine ⟨?_, (hdr_built wr wr.heap.size ⟨#[84, 111]⟩ ⟨#[120]⟩ hTo rfl rfl (Nat.le_refl _)).below ((Below.refl _ _).alloc (Nat.le_refl _) _) (Nat.le_refl _), ((Below.refl _ _).alloc (Nat.le_refl _) _).alloc (by rw [World.size_alloc]; omega) _⟩
            rw [show wr.heap.size + 1 = (wr.alloc (.cells #[.string ⟨#[84, 111]⟩, .string ⟨#[120]⟩] 37)).heap.size from (World.size_alloc _ _).symm]
            exact Blk.new _ _ _
          try simp only [← eW]
          clear eW
          have m4 := boxedCell hF.1 4
          refine wp_region_any (by kernel_rfl) ?_
          try (change wpAny _ _ _ _ _ _ _ (World.drew _))
          obtain ⟨W1, e1⟩ : ∃ x, x = World.drew W := ⟨_, rfl⟩
          have hF := hF.drew
          rw [← e1] at hF ⊢
          clear e1 m4
          first | (refine wpAny_take (i := 0) (v := undef) rfl (by kernel_rfl) (by kernel_rfl) (by kernel_rfl) (fun _ _ _ h => h) (Or.inr ⟨by rfl, rfl⟩) ?_) | (refine wpAny_take (i := 0) (v := ?_) rfl (by kernel_rfl) (by kernel_rfl) (by kernel_rfl) (fun _ _ _ h => h) ?_ ?_; rotate_left; focus (refine Or.inl ⟨by rfl, ?_⟩; intro _; go_simp; first | done | with_reducible rfl | (rw [if_neg (by omega)]; done) | (rw [if_neg (by omega)]; with_reducible rfl)))
          try go_simp
          first | (refine wpAny_take (i := 2) (v := undef) rfl (by kernel_rfl) (by kernel_rfl) (by kernel_rfl) (fun _ _ _ h => h) (Or.inr ⟨by rfl, rfl⟩) ?_) | (refine wpAny_take (i := 2) (v := ?_) rfl (by kernel_rfl) (by kernel_rfl) (by kernel_rfl) (fun _ _ _ h => h) ?_ ?_; rotate_left; focus (refine Or.inl ⟨by rfl, ?_⟩; intro _; go_simp; first | done | with_reducible rfl | (rw [if_neg (by omega)]; done) | (rw [if_neg (by omega)]; with_reducible rfl)))
          try go_simp
          first | (refine wpAny_take (i := 3) (v := undef) rfl (by kernel_rfl) (by kernel_rfl) (by kernel_rfl) (fun _ _ _ h => h) (Or.inr ⟨by rfl, rfl⟩) ?_) | (refine wpAny_take (i := 3) (v := ?_) rfl (by kernel_rfl) (by kernel_rfl) (by kernel_rfl) (fun _ _ _ h => h) ?_ ?_; rotate_left; focus (refine Or.inl ⟨by rfl, ?_⟩; intro _; go_simp; first | done | with_reducible rfl | (rw [if_neg (by omega)]; done) | (rw [if_neg (by omega)]; with_reducible rfl)))
          try go_simp
          first | (refine wpAny_take (i := 4) (v := undef) rfl (by kernel_rfl) (by kernel_rfl) (by kernel_rfl) (fun _ _ _ h => h) (Or.inr ⟨by rfl, rfl⟩) ?_) | (refine wpAny_take (i := 4) (v := ?_) rfl (by kernel_rfl) (by kernel_rfl) (by kernel_rfl) (fun _ _ _ h => h) ?_ ?_; rotate_left; focus (refine Or.inl ⟨by rfl, ?_⟩; intro _; go_simp; first | done | with_reducible rfl | (rw [if_neg (by omega)]; done) | (rw [if_neg (by omega)]; with_reducible rfl)))
          try go_simp
          refine wpAny_ready (rs := [1, 5]) (by kernel_rfl) (by simp) ?_
          refine AllReady.cons rfl (fun K hK => ?_) ?_
          ·
            have m4 := boxedCell hF.1 4
            try go_simp
            refine hK _ _ ?_; clear hK K
            refine wpAny_ready (rs := [5]) (by kernel_rfl) (by simp) ?_
            refine AllReady.cons rfl (fun K hK => ?_) ?_
            ·
              refine step_wB2 (by rfl) rfl Tryd.func24 nmGl bdGl rfl rfl (HG1.out _ hF.2.2) ?_; intro W2 hB2
              have hF := hF.call hB2
              try go_simp
              refine hK _ _ ?_; clear hK K
              first | (refine wpAny_take (i := 6) (v := undef) rfl (by kernel_rfl) (by kernel_rfl) (by kernel_rfl) (fun _ _ _ h => h) (Or.inr ⟨by rfl, rfl⟩) ?_) | (refine wpAny_take (i := 6) (v := ?_) rfl (by kernel_rfl) (by kernel_rfl) (by kernel_rfl) (fun _ _ _ h => h) ?_ ?_; rotate_left; focus (refine Or.inl ⟨by rfl, ?_⟩; intro _; go_simp; first | done | with_reducible rfl | (rw [if_neg (by omega)]; done) | (rw [if_neg (by omega)]; with_reducible rfl)))
              try go_simp
              refine wpAny_ready (rs := [7]) (by kernel_rfl) (by simp) ?_
              refine AllReady.cons rfl (fun K hK => ?_) ?_
              ·
                have m4a := boxedCell (hF.1.alloc (.cells #[.string ⟨#[86, 73, 65]⟩, .string G1] 37)) 4
                try go_simp
                refine hK _ _ ?_; clear hK K
                refine wpAny_ready (rs := [8]) (by kernel_rfl) (by simp) ?_
                refine AllReady.cons rfl (fun K hK => ?_) ?_
                ·
                  refine step_of rfl (op_appKH (hA L KX) rfl HU1.out rfl Tryd.underlying33 infoH rfl rfl hF.2.1 hF.2.2 (Nat.le_refl _) (by simp) ?_); intro v' W3 ho3 hb3 hk3
                  obtain ⟨xo, xc, rfl, _⟩ := Hdrs.len ho3
                  have bm3 := hk3.blk hF.1 (by decide)
                  have m5 := boxedCell bm3 4
                  have f5 := boxedFree bm3 4
                  have z5 := bm3.lt
                  have hF := hF.store hk3 ho3 hb3 (Nat.le_succ _)
                  clear bm3
                  try go_simp
                  refine hK _ _ ?_; clear hK K
                  first | (refine wpAny_take (i := 9) (v := undef) rfl (by kernel_rfl) (by kernel_rfl) (by kernel_rfl) (fun _ _ _ h => h) (Or.inr ⟨by rfl, rfl⟩) ?_) | (refine wpAny_take (i := 9) (v := ?_) rfl (by kernel_rfl) (by kernel_rfl) (by kernel_rfl) (fun _ _ _ h => h) ?_ ?_; rotate_left; focus (refine Or.inl ⟨by rfl, ?_⟩; intro _; go_simp; first | done | with_reducible rfl | (rw [if_neg (by omega)]; done) | (rw [if_neg (by omega)]; with_reducible rfl)))
                  try go_simp
                  refine wpAny_ready (rs := [10]) (by kernel_rfl) (by simp) ?_
                  refine AllReady.cons rfl (fun K hK => ?_) ?_
                  ·
                    go_simp
                    refine hK _ _ ?_; clear hK K
                    refine wpAny_done (by kernel_rfl) ?_ _
                    have hF : SprF wr (wr.heap.size + 1) (.slice xo 2 xc) ([hTo] ++ [hA L KX]) (W3.setCell ⟨wr.heap.size + 1, 4, none⟩ (.slice xo 2 xc)) := hF
                    obtain ⟨W, eW⟩ : ∃ x, x = W3.setCell ⟨wr.heap.size + 1, 4, none⟩ (.slice xo 2 xc) := ⟨_, rfl⟩
                    rw [← eW] at hF
                    try simp only [← eW]
                    clear eW ho3 hb3 hk3
                    go_wp2
                    have m4 := boxedCell hF.1 4
                    refine wp_region_any (by kernel_rfl) ?_
                    try (change wpAny _ _ _ _ _ _ _ (World.drew _))
                    obtain ⟨W1, e1⟩ : ∃ x, x = World.drew W := ⟨_, rfl⟩
                    have hF := hF.drew
                    rw [← e1] at hF ⊢
                    clear e1 m4
                    first | (refine wpAny_take (i := 0) (v := undef) rfl (by kernel_rfl) (by kernel_rfl) (by kernel_rfl) (fun _ _ _ h => h) (Or.inr ⟨by rfl, rfl⟩) ?_) | (refine wpAny_take (i := 0) (v := ?_) rfl (by kernel_rfl) (by kernel_rfl) (by kernel_rfl) (fun _ _ _ h => h) ?_ ?_; rotate_left; focus (refine Or.inl ⟨by rfl, ?_⟩; intro _; go_simp; first | done | with_reducible rfl | (rw [if_neg (by omega)]; done) | (rw [if_neg (by omega)]; with_reducible rfl)))
                    try go_simp
                    first | (refine wpAny_take (i := 2) (v := undef) rfl (by kernel_rfl) (by kernel_rfl) (by kernel_rfl) (fun _ _ _ h => h) (Or.inr ⟨by rfl, rfl⟩) ?_) | (refine wpAny_take (i := 2) (v := ?_) rfl (by kernel_rfl) (by kernel_rfl) (by kernel_rfl) (fun _ _ _ h => h) ?_ ?_; rotate_left; focus (refine Or.inl ⟨by rfl, ?_⟩; intro _; go_simp; first | done | with_reducible rfl | (rw [if_neg (by omega)]; done) | (rw [if_neg (by omega)]; with_reducible rfl)))
                    try go_simp
                    first | (refine wpAny_take (i := 3) (v := undef) rfl (by kernel_rfl) (by kernel_rfl) (by kernel_rfl) (fun _ _ _ h => h) (Or.inr ⟨by rfl, rfl⟩) ?_) | (refine wpAny_take (i := 3) (v := ?_) rfl (by kernel_rfl) (by kernel_rfl) (by kernel_rfl) (fun _ _ _ h => h) ?_ ?_; rotate_left; focus (refine Or.inl ⟨by rfl, ?_⟩; intro _; go_simp; first | done | with_reducible rfl | (rw [if_neg (by omega)]; done) | (rw [if_neg (by omega)]; with_reducible rfl)))
                    try go_simp
                    first | (refine wpAny_take (i := 4) (v := undef) rfl (by kernel_rfl) (by kernel_rfl) (by kernel_rfl) (fun _ _ _ h => h) (Or.inr ⟨by rfl, rfl⟩) ?_) | (refine wpAny_take (i := 4) (v := ?_) rfl (by kernel_rfl) (by kernel_rfl) (by kernel_rfl) (fun _ _ _ h => h) ?_ ?_; rotate_left; focus (refine Or.inl ⟨by rfl, ?_⟩; intro _; go_simp; first | done | with_reducible rfl | (rw [if_neg (by omega)]; done) | (rw [if_neg (by omega)]; with_reducible rfl)))
                    try go_simp
                    refine wpAny_ready (rs := [1, 5]) (by kernel_rfl) (by simp) ?_
                    refine AllReady.cons rfl (fun K hK => ?_) ?_
                    ·
                      have m4 := boxedCell hF.1 4
                      try go_simp
                      refine hK _ _ ?_; clear hK K
                      refine wpAny_ready (rs := [5]) (by kernel_rfl) (by simp) ?_
                      refine AllReady.cons rfl (fun K hK => ?_) ?_
                      ·
                        refine step_wB2 (by rfl) rfl Tryd.func24 nmGl bdGl rfl rfl (HG2.out _ hF.2.2 hKlt) ?_; intro W2 hB2
                        have hF := hF.call hB2
                        try go_simp
                        refine hK _ _ ?_; clear hK K
                        first | (refine wpAny_take (i := 6) (v := undef) rfl (by kernel_rfl) (by kernel_rfl) (by kernel_rfl) (fun _ _ _ h => h) (Or.inr ⟨by rfl, rfl⟩) ?_) | (refine wpAny_take (i := 6) (v := ?_) rfl (by kernel_rfl) (by kernel_rfl) (by kernel_rfl) (fun _ _ _ h => h) ?_ ?_; rotate_left; focus (refine Or.inl ⟨by rfl, ?_⟩; intro _; go_simp; first | done | with_reducible rfl | (rw [if_neg (by omega)]; done) | (rw [if_neg (by omega)]; with_reducible rfl)))
                        try go_simp
                        refine wpAny_ready (rs := [7]) (by kernel_rfl) (by simp) ?_
                        refine AllReady.cons rfl (fun K hK => ?_) ?_
                        ·
                          have m4a := boxedCell (hF.1.alloc (.cells #[.string ⟨#[118, 105, 97]⟩, .string G2] 37)) 4
                          try go_simp
                          refine hK _ _ ?_; clear hK K
                          refine wpAny_ready (rs := [8]) (by kernel_rfl) (by simp) ?_
                          refine AllReady.cons rfl (fun K hK => ?_) ?_
                          ·
                            refine step_of rfl (op_appKH (hB L KX) rfl HU2.out rfl Tryd.underlying33 infoH rfl rfl hF.2.1 hF.2.2 (Nat.le_refl _) (by simp) ?_); intro v' W3 ho3 hb3 hk3
                            obtain ⟨xo, xc, rfl, _⟩ := Hdrs.len ho3
                            have bm3 := hk3.blk hF.1 (by decide)
                            have m5 := boxedCell bm3 4
                            have f5 := boxedFree bm3 4
                            have z5 := bm3.lt
                            have hF := hF.store hk3 ho3 hb3 (Nat.le_succ _)
                            clear bm3
                            try go_simp
                            refine hK _ _ ?_; clear hK K
                            first | (refine wpAny_take (i := 9) (v := undef) rfl (by kernel_rfl) (by kernel_rfl) (by kernel_rfl) (fun _ _ _ h => h) (Or.inr ⟨by rfl, rfl⟩) ?_) | (refine wpAny_take (i := 9) (v := ?_) rfl (by kernel_rfl) (by kernel_rfl) (by kernel_rfl) (fun _ _ _ h => h) ?_ ?_; rotate_left; focus (refine Or.inl ⟨by rfl, ?_⟩; intro _; go_simp; first | done | with_reducible rfl | (rw [if_neg (by omega)]; done) | (rw [if_neg (by omega)]; with_reducible rfl)))
                            try go_simp
                            refine wpAny_ready (rs := [10]) (by kernel_rfl) (by simp) ?_
                            refine AllReady.cons rfl (fun K hK => ?_) ?_
                            ·
                              go_simp
                              refine hK _ _ ?_; clear hK K
                              refine wpAny_done (by kernel_rfl) ?_ _
                              have hF : SprF wr (wr.heap.size + 1) (.slice xo 3 xc) ([hTo] ++ [hA L KX] ++ [hB L KX]) (W3.setCell ⟨wr.heap.size + 1, 4, none⟩ (.slice xo 3 xc)) := hF
                              obtain ⟨W, eW⟩ : ∃ x, x = W3.setCell ⟨wr.heap.size + 1, 4, none⟩ (.slice xo 3 xc) := ⟨_, rfl⟩
                              rw [← eW] at hF
                              try simp only [← eW]
                              clear eW ho3 hb3 hk3
                              have hX := hF.2.2
                              have HLn := Lib.hid (fun wx hx hu => list_c ⟨#[]⟩ ⟨#[]⟩ ⟨#[]⟩ ⟨#[]⟩ 0 (.slice xo 3 xc) ([hTo] ++ [hA L KX] ++ [hB L KX]) wx hx hu (HNB.out) (by simp))
                              rw [HSN.out] at HLn
                              have bmm := HBm.out _ hX
                              obtain ⟨p0, p1, p2, p3, p4, p5⟩ := Blk.f6 bmm
                              obtain ⟨q0, q1, q2, q3, q4, q5⟩ := Blk.f6 hF.1
                              clear bmm
                              go_wp2_with (first | (go_at_call 13; ((with_reducible refine (HLm.out _ (HMR.out _ hX) hX).mono ?_); rintro e w1 ⟨va, rfl, hva, hC1⟩); have hF := hF.call hC1; have hX := hX.trans (hC1.mono hX.size); obtain ⟨q0, q1, q2, q3, q4, q5⟩ := Blk.f6 hF.1; have hNr := hF.2.1.read) | (go_at_call 13; ((with_reducible refine (HLn.out _ (HMR.out _ hX) hNr).mono ?_); rintro e w2 ⟨vb, rfl, hvb, hC2⟩); have hX := hX.trans (hC2.mono hX.size); have hva := hva.below hC2 (Nat.le_refl _)) | (go_at_call 15; ((with_reducible refine (allV_c va (.slice ao L.length cap) L _ hva (HVR.out _ hX)).mono ?_); rintro e w3 ⟨rfl, hC3⟩); have hvb := hvb.below hC3 (Nat.le_refl _); have hX := hX.trans (hC3.mono hX.size)) | (go_at_call 15; ((with_reducible refine (allV_c vb (.slice ao L.length cap) L _ hvb (HVR.out _ hX)).mono ?_); rintro e w4 ⟨rfl, hC4⟩); have hX := hX.trans (hC4.mono hX.size)) | (go_at_call 9; refine (HA.out _ (HMR.out _ hX)).mono ?_; rintro e wz ⟨rfl, hCz⟩))
                              go_ret
                              exact ⟨rfl, HB.out.trans ((hX.trans (hCz.mono hX.size)).mono HB.out.size)⟩
                            exact AllReady.nil
                          exact AllReady.nil
                        exact AllReady.nil
                      exact AllReady.nil
                    refine AllReady.cons rfl (fun K hK => ?_) ?_
                    ·
                      refine step_wB2 (by rfl) rfl Tryd.func24 nmGl bdGl rfl rfl (HG2.out _ hF.2.2 hKlt) ?_; intro W2 hB2
                      have hF := hF.call hB2
                      try go_simp
                      refine hK _ _ ?_; clear hK K
                      first | (refine wpAny_take (i := 6) (v := undef) rfl (by kernel_rfl) (by kernel_rfl) (by kernel_rfl) (fun _ _ _ h => h) (Or.inr ⟨by rfl, rfl⟩) ?_) | (refine wpAny_take (i := 6) (v := ?_) rfl (by kernel_rfl) (by kernel_rfl) (by kernel_rfl) (fun _ _ _ h => h) ?_ ?_; rotate_left; focus (refine Or.inl ⟨by rfl, ?_⟩; intro _; go_simp; first | done | with_reducible rfl | (rw [if_neg (by omega)]; done) | (rw [if_neg (by omega)]; with_reducible rfl)))
                      try go_simp
                      refine wpAny_ready (rs := [1, 7]) (by kernel_rfl) (by simp) ?_
                      refine AllReady.cons rfl (fun K hK => ?_) ?_
                      ·
                        have m4 := boxedCell hF.1 4
                        try go_simp
                        refine hK _ _ ?_; clear hK K
                        refine wpAny_ready (rs := [7]) (by kernel_rfl) (by simp) ?_
                        refine AllReady.cons rfl (fun K hK => ?_) ?_
                        ·
                          have m4a := boxedCell (hF.1.alloc (.cells #[.string ⟨#[118, 105, 97]⟩, .string G2] 37)) 4
                          try go_simp
                          refine hK _ _ ?_; clear hK K
                          refine wpAny_ready (rs := [8]) (by kernel_rfl) (by simp) ?_
                          refine AllReady.cons rfl (fun K hK => ?_) ?_
                          ·
                            refine step_of rfl (op_appKH (hB L KX) rfl HU2.out rfl Tryd.underlying33 infoH rfl rfl hF.2.1 hF.2.2 (Nat.le_refl _) (by simp) ?_); intro v' W3 ho3 hb3 hk3
                            obtain ⟨xo, xc, rfl, _⟩ := Hdrs.len ho3
                            have bm3 := hk3.blk hF.1 (by decide)
                            have m5 := boxedCell bm3 4
                            have f5 := boxedFree bm3 4
                            have z5 := bm3.lt
                            have hF := hF.store hk3 ho3 hb3 (Nat.le_succ _)
                            clear bm3
                            try go_simp
                            refine hK _ _ ?_; clear hK K
                            first | (refine wpAny_take (i := 9) (v := undef) rfl (by kernel_rfl) (by kernel_rfl) (by kernel_rfl) (fun _ _ _ h => h) (Or.inr ⟨by rfl, rfl⟩) ?_) | (refine wpAny_take (i := 9) (v := ?_) rfl (by kernel_rfl) (by kernel_rfl) (by kernel_rfl) (fun _ _ _ h => h) ?_ ?_; rotate_left; focus (refine Or.inl ⟨by rfl, ?_⟩; intro _; go_simp; first | done | with_reducible rfl | (rw [if_neg (by omega)]; done) | (rw [if_neg (by omega)]; with_reducible rfl)))
                            try go_simp
                            refine wpAny_ready (rs := [10]) (by kernel_rfl) (by simp) ?_
                            refine AllReady.cons rfl (fun K hK => ?_) ?_
                            ·
                              go_simp
                              refine hK _ _ ?_; clear hK K
                              refine wpAny_done (by kernel_rfl) ?_ _
                              have hF : SprF wr (wr.heap.size + 1) (.slice xo 3 xc) ([hTo] ++ [hA L KX] ++ [hB L KX]) (W3.setCell ⟨wr.heap.size + 1, 4, none⟩ (.slice xo 3 xc)) := hF
                              obtain ⟨W, eW⟩ : ∃ x, x = W3.setCell ⟨wr.heap.size + 1, 4, none⟩ (.slice xo 3 xc) := ⟨_, rfl⟩
                              rw [← eW] at hF
                              try simp only [← eW]
                              clear eW ho3 hb3 hk3
                              have hX := hF.2.2
                              have HLn := Lib.hid (fun wx hx hu => list_c ⟨#[]⟩ ⟨#[]⟩ ⟨#[]⟩ ⟨#[]⟩ 0 (.slice xo 3 xc) ([hTo] ++ [hA L KX] ++ [hB L KX]) wx hx hu (HNB.out) (by simp))
                              rw [HSN.out] at HLn
                              have bmm := HBm.out _ hX
                              obtain ⟨p0, p1, p2, p3, p4, p5⟩ := Blk.f6 bmm
                              obtain ⟨q0, q1, q2, q3, q4, q5⟩ := Blk.f6 hF.1
                              clear bmm
                              go_wp2_with (first | (go_at_call 13; ((with_reducible refine (HLm.out _ (HMR.out _ hX) hX).mono ?_); rintro e w1 ⟨va, rfl, hva, hC1⟩); have hF := hF.call hC1; have hX := hX.trans (hC1.mono hX.size); obtain ⟨q0, q1, q2, q3, q4, q5⟩ := Blk.f6 hF.1; have hNr := hF.2.1.read) | (go_at_call 13; ((with_reducible refine (HLn.out _ (HMR.out _ hX) hNr).mono ?_); rintro e w2 ⟨vb, rfl, hvb, hC2⟩); have hX := hX.trans (hC2.mono hX.size); have hva := hva.below hC2 (Nat.le_refl _)) | (go_at_call 15; ((with_reducible refine (allV_c va (.slice ao L.length cap) L _ hva (HVR.out _ hX)).mono ?_); rintro e w3 ⟨rfl, hC3⟩); have hvb := hvb.below hC3 (Nat.le_refl _); have hX := hX.trans (hC3.mono hX.size)) | (go_at_call 15; ((with_reducible refine (allV_c vb (.slice ao L.length cap) L _ hvb (HVR.out _ hX)).mono ?_); rintro e w4 ⟨rfl, hC4⟩); have hX := hX.trans (hC4.mono hX.size)) | (go_at_call 9; refine (HA.out _ (HMR.out _ hX)).mono ?_; rintro e wz ⟨rfl, hCz⟩))
                              go_ret
                              exact ⟨rfl, HB.out.trans ((hX.trans (hCz.mono hX.size)).mono HB.out.size)⟩
                            exact AllReady.nil
                          exact AllReady.nil
                        exact AllReady.nil
                      refine AllReady.cons rfl (fun K hK => ?_) ?_
                      ·
                        have m4a := boxedCell (hF.1.alloc (.cells #[.string ⟨#[118, 105, 97]⟩, .string G2] 37)) 4
                        try go_simp
                        refine hK _ _ ?_; clear hK K
                        refine wpAny_ready (rs := [1]) (by kernel_rfl) (by simp) ?_
                        refine AllReady.cons rfl (fun K hK => ?_) ?_
                        ·
                          have m4 := boxedCell hF.1 4
                          try go_simp
                          refine hK _ _ ?_; clear hK K
                          refine wpAny_ready (rs := [8]) (by kernel_rfl) (by simp) ?_
                          refine AllReady.cons rfl (fun K hK => ?_) ?_
                          ·
                            refine step_of rfl (op_appKH (hB L KX) rfl HU2.out rfl Tryd.underlying33 infoH rfl rfl hF.2.1 hF.2.2 (Nat.le_refl _) (by simp) ?_); intro v' W3 ho3 hb3 hk3
                            obtain ⟨xo, xc, rfl, _⟩ := Hdrs.len ho3
                            have bm3 := hk3.blk hF.1 (by decide)
                            have m5 := boxedCell bm3 4
                            have f5 := boxedFree bm3 4
                            have z5 := bm3.lt
                            have hF := hF.store hk3 ho3 hb3 (Nat.le_succ _)
                            clear bm3
                            try go_simp
                            refine hK _ _ ?_; clear hK K
                            first | (refine wpAny_take (i := 9) (v := undef) rfl (by kernel_rfl) (by kernel_rfl) (by kernel_rfl) (fun _ _ _ h => h) (Or.inr ⟨by rfl, rfl⟩) ?_) | (refine wpAny_take (i := 9) (v := ?_) rfl (by kernel_rfl) (by kernel_rfl) (by kernel_rfl) (fun _ _ _ h => h) ?_ ?_; rotate_left; focus (refine Or.inl ⟨by rfl, ?_⟩; intro _; go_simp; first | done | with_reducible rfl | (rw [if_neg (by omega)]; done) | (rw [if_neg (by omega)]; with_reducible rfl)))
                            try go_simp
                            refine wpAny_ready (rs := [10]) (by kernel_rfl) (by simp) ?_
                            refine AllReady.cons rfl (fun K hK => ?_) ?_
                            ·
                              go_simp
                              refine hK _ _ ?_; clear hK K
                              refine wpAny_done (by kernel_rfl) ?_ _
                              have hF : SprF wr (wr.heap.size + 1) (.slice xo 3 xc) ([hTo] ++ [hA L KX] ++ [hB L KX]) (W3.setCell ⟨wr.heap.size + 1, 4, none⟩ (.slice xo 3 xc)) := hF
                              obtain ⟨W, eW⟩ : ∃ x, x = W3.setCell ⟨wr.heap.size + 1, 4, none⟩ (.slice xo 3 xc) := ⟨_, rfl⟩
                              rw [← eW] at hF
                              try simp only [← eW]
                              clear eW ho3 hb3 hk3
                              have hX := hF.2.2
                              have HLn := Lib.hid (fun wx hx hu => list_c ⟨#[]⟩ ⟨#[]⟩ ⟨#[]⟩ ⟨#[]⟩ 0 (.slice xo 3 xc) ([hTo] ++ [hA L KX] ++ [hB L KX]) wx hx hu (HNB.out) (by simp))
                              rw [HSN.out] at HLn
                              have bmm := HBm.out _ hX
                              obtain ⟨p0, p1, p2, p3, p4, p5⟩ := Blk.f6 bmm
                              obtain ⟨q0, q1, q2, q3, q4, q5⟩ := Blk.f6 hF.1
                              clear bmm
                              go_wp2_with (first | (go_at_call 13; ((with_reducible refine (HLm.out _ (HMR.out _ hX) hX).mono ?_); rintro e w1 ⟨va, rfl, hva, hC1⟩); have hF := hF.call hC1; have hX := hX.trans (hC1.mono hX.size); obtain ⟨q0, q1, q2, q3, q4, q5⟩ := Blk.f6 hF.1; have hNr := hF.2.1.read) | (go_at_call 13; ((with_reducible refine (HLn.out _ (HMR.out _ hX) hNr).mono ?_); rintro e w2 ⟨vb, rfl, hvb, hC2⟩); have hX := hX.trans (hC2.mono hX.size); have hva := hva.below hC2 (Nat.le_refl _)) | (go_at_call 15; ((with_reducible refine (allV_c va (.slice ao L.length cap) L _ hva (HVR.out _ hX)).mono ?_); rintro e w3 ⟨rfl, hC3⟩); have hvb := hvb.below hC3 (Nat.le_refl _); have hX := hX.trans (hC3.mono hX.size)) | (go_at_call 15; ((with_reducible refine (allV_c vb (.slice ao L.length cap) L _ hvb (HVR.out _ hX)).mono ?_); rintro e w4 ⟨rfl, hC4⟩); have hX := hX.trans (hC4.mono hX.size)) | (go_at_call 9; refine (HA.out _ (HMR.out _ hX)).mono ?_; rintro e wz ⟨rfl, hCz⟩))
                              go_ret
                              exact ⟨rfl, HB.out.trans ((hX.trans (hCz.mono hX.size)).mono HB.out.size)⟩
                            exact AllReady.nil
                          exact AllReady.nil
                        exact AllReady.nil
                      exact AllReady.nil
                    exact AllReady.nil
                  exact AllReady.nil
                exact AllReady.nil
              exact AllReady.nil
            exact AllReady.nil
          refine AllReady.cons rfl (fun K hK => ?_) ?_
          ·
            refine step_wB2 (by rfl) rfl Tryd.func24 nmGl bdGl rfl rfl (HG1.out _ hF.2.2) ?_; intro W2 hB2
            have hF := hF.call hB2
            try go_simp
            refine hK _ _ ?_; clear hK K
            first | (refine wpAny_take (i := 6) (v := undef) rfl (by kernel_rfl) (by kernel_rfl) (by kernel_rfl) (fun _ _ _ h => h) (Or.inr ⟨by rfl, rfl⟩) ?_) | (refine wpAny_take (i := 6) (v := ?_) rfl (by kernel_rfl) (by kernel_rfl) (by kernel_rfl) (fun _ _ _ h => h) ?_ ?_; rotate_left; focus (refine Or.inl ⟨by rfl, ?_⟩; intro _; go_simp; first | done | with_reducible rfl | (rw [if_neg (by omega)]; done) | (rw [if_neg (by omega)]; with_reducible rfl)))
            try go_simp
            refine wpAny_ready (rs := [1, 7]) (by kernel_rfl) (by simp) ?_
            refine AllReady.cons rfl (fun K hK => ?_) ?_
            ·
              have m4 := boxedCell hF.1 4
              try go_simp
              refine hK _ _ ?_; clear hK K
              refine wpAny_ready (rs := [7]) (by kernel_rfl) (by simp) ?_
              refine AllReady.cons rfl (fun K hK => ?_) ?_
              ·
                have m4a := boxedCell (hF.1.alloc (.cells #[.string ⟨#[86, 73, 65]⟩, .string G1] 37)) 4
                try go_simp
                refine hK _ _ ?_; clear hK K
                refine wpAny_ready (rs := [8]) (by kernel_rfl) (by simp) ?_
                refine AllReady.cons rfl (fun K hK => ?_) ?_
                ·
                  refine step_of rfl (op_appKH (hA L KX) rfl HU1.out rfl Tryd.underlying33 infoH rfl rfl hF.2.1 hF.2.2 (Nat.le_refl _) (by simp) ?_); intro v' W3 ho3 hb3 hk3
                  obtain ⟨xo, xc, rfl, _⟩ := Hdrs.len ho3
                  have bm3 := hk3.blk hF.1 (by decide)
                  have m5 := boxedCell bm3 4
                  have f5 := boxedFree bm3 4
                  have z5 := bm3.lt
                  have hF := hF.store hk3 ho3 hb3 (Nat.le_succ _)
                  clear bm3
                  try go_simp
                  refine hK _ _ ?_; clear hK K
                  first | (refine wpAny_take (i := 9) (v := undef) rfl (by kernel_rfl) (by kernel_rfl) (by kernel_rfl) (fun _ _ _ h => h) (Or.inr ⟨by rfl, rfl⟩) ?_) | (refine wpAny_take (i := 9) (v := ?_) rfl (by kernel_rfl) (by kernel_rfl) (by kernel_rfl) (fun _ _ _ h => h) ?_ ?_; rotate_left; focus (refine Or.inl ⟨by rfl, ?_⟩; intro _; go_simp; first | done | with_reducible rfl | (rw [if_neg (by omega)]; done) | (rw [if_neg (by omega)]; with_reducible rfl)))
                  try go_simp
                  refine wpAny_ready (rs := [10]) (by kernel_rfl) (by simp) ?_
                  refine AllReady.cons rfl (fun K hK => ?_) ?_
                  ·
                    go_simp
                    refine hK _ _ ?_; clear hK K
                    refine wpAny_done (by kernel_rfl) ?_ _
                    have hF : SprF wr (wr.heap.size + 1) (.slice xo 2 xc) ([hTo] ++ [hA L KX]) (W3.setCell ⟨wr.heap.size + 1, 4, none⟩ (.slice xo 2 xc)) := hF
                    obtain ⟨W, eW⟩ : ∃ x, x = W3.setCell ⟨wr.heap.size + 1, 4, none⟩ (.slice xo 2 xc) := ⟨_, rfl⟩
                    rw [← eW] at hF
                    try simp only [← eW]
                    clear eW ho3 hb3 hk3
                    go_wp2
                    have m4 := boxedCell hF.1 4
                    refine wp_region_any (by kernel_rfl) ?_
                    try (change wpAny _ _ _ _ _ _ _ (World.drew _))
                    obtain ⟨W1, e1⟩ : ∃ x, x = World.drew W := ⟨_, rfl⟩
                    have hF := hF.drew
                    rw [← e1] at hF ⊢
                    clear e1 m4
                    first | (refine wpAny_take (i := 0) (v := undef) rfl (by kernel_rfl) (by kernel_rfl) (by kernel_rfl) (fun _ _ _ h => h) (Or.inr ⟨by rfl, rfl⟩) ?_) | (refine wpAny_take (i := 0) (v := ?_) rfl (by kernel_rfl) (by kernel_rfl) (by kernel_rfl) (fun _ _ _ h => h) ?_ ?_; rotate_left; focus (refine Or.inl ⟨by rfl, ?_⟩; intro _; go_simp; first | done | with_reducible rfl | (rw [if_neg (by omega)]; done) | (rw [if_neg (by omega)]; with_reducible rfl)))
                    try go_simp
                    first | (refine wpAny_take (i := 2) (v := undef) rfl (by kernel_rfl) (by kernel_rfl) (by kernel_rfl) (fun _ _ _ h => h) (Or.inr ⟨by rfl, rfl⟩) ?_) | (refine wpAny_take (i := 2) (v := ?_) rfl (by kernel_rfl) (by kernel_rfl) (by kernel_rfl) (fun _ _ _ h => h) ?_ ?_; rotate_left; focus (refine Or.inl ⟨by rfl, ?_⟩; intro _; go_simp; first | done | with_reducible rfl | (rw [if_neg (by omega)]; done) | (rw [if_neg (by omega)]; with_reducible rfl)))
                    try go_simp
                    first | (refine wpAny_take (i := 3) (v := undef) rfl (by kernel_rfl) (by kernel_rfl) (by kernel_rfl) (fun _ _ _ h => h) (Or.inr ⟨by rfl, rfl⟩) ?_) | (refine wpAny_take (i := 3) (v := ?_) rfl (by kernel_rfl) (by kernel_rfl) (by kernel_rfl) (fun _ _ _ h => h) ?_ ?_; rotate_left; focus (refine Or.inl ⟨by rfl, ?_⟩; intro _; go_simp; first | done | with_reducible rfl | (rw [if_neg (by omega)]; done) | (rw [if_neg (by omega)]; with_reducible rfl)))
                    try go_simp
                    first | (refine wpAny_take (i := 4) (v := undef) rfl (by kernel_rfl) (by kernel_rfl) (by kernel_rfl) (fun _ _ _ h => h) (Or.inr ⟨by rfl, rfl⟩) ?_) | (refine wpAny_take (i := 4) (v := ?_) rfl (by kernel_rfl) (by kernel_rfl) (by kernel_rfl) (fun _ _ _ h => h) ?_ ?_; rotate_left; focus (refine Or.inl ⟨by rfl, ?_⟩; intro _; go_simp; first | done | with_reducible rfl | (rw [if_neg (by omega)]; done) | (rw [if_neg (by omega)]; with_reducible rfl)))
                    try go_simp
                    refine wpAny_ready (rs := [1, 5]) (by kernel_rfl) (by simp) ?_
                    refine AllReady.cons rfl (fun K hK => ?_) ?_
                    ·
                      have m4 := boxedCell hF.1 4
                      try go_simp
                      refine hK _ _ ?_; clear hK K
                      refine wpAny_ready (rs := [5]) (by kernel_rfl) (by simp) ?_
                      refine AllReady.cons rfl (fun K hK => ?_) ?_
                      ·
                        refine step_wB2 (by rfl) rfl Tryd.func24 nmGl bdGl rfl rfl (HG2.out _ hF.2.2 hKlt) ?_; intro W2 hB2
                        have hF := hF.call hB2
                        try go_simp
                        refine hK _ _ ?_; clear hK K
                        first | (refine wpAny_take (i := 6) (v := undef) rfl (by kernel_rfl) (by kernel_rfl) (by kernel_rfl) (fun _ _ _ h => h) (Or.inr ⟨by rfl, rfl⟩) ?_) | (refine wpAny_take (i := 6) (v := ?_) rfl (by kernel_rfl) (by kernel_rfl) (by kernel_rfl) (fun _ _ _ h => h) ?_ ?_; rotate_left; focus (refine Or.inl ⟨by rfl, ?_⟩; intro _; go_simp; first | done | with_reducible rfl | (rw [if_neg (by omega)]; done) | (rw [if_neg (by omega)]; with_reducible rfl)))
                        try go_simp
                        refine wpAny_ready (rs := [7]) (by kernel_rfl) (by simp) ?_
                        refine AllReady.cons rfl (fun K hK => ?_) ?_
                        ·
                          have m4a := boxedCell (hF.1.alloc (.cells #[.string ⟨#[118, 105, 97]⟩, .string G2] 37)) 4
                          try go_simp
                          refine hK _ _ ?_; clear hK K
                          refine wpAny_ready (rs := [8]) (by kernel_rfl) (by simp) ?_
                          refine AllReady.cons rfl (fun K hK => ?_) ?_
                          ·
                            refine step_of rfl (op_appKH (hB L KX) rfl HU2.out rfl Tryd.underlying33 infoH rfl rfl hF.2.1 hF.2.2 (Nat.le_refl _) (by simp) ?_); intro v' W3 ho3 hb3 hk3
                            obtain ⟨xo, xc, rfl, _⟩ := Hdrs.len ho3
                            have bm3 := hk3.blk hF.1 (by decide)
                            have m5 := boxedCell bm3 4
                            have f5 := boxedFree bm3 4
                            have z5 := bm3.lt
                            have hF := hF.store hk3 ho3 hb3 (Nat.le_succ _)
                            clear bm3
                            try go_simp
                            refine hK _ _ ?_; clear hK K
                            first | (refine wpAny_take (i := 9) (v := undef) rfl (by kernel_rfl) (by kernel_rfl) (by kernel_rfl) (fun _ _ _ h => h) (Or.inr ⟨by rfl, rfl⟩) ?_) | (refine wpAny_take (i := 9) (v := ?_) rfl (by kernel_rfl) (by kernel_rfl) (by kernel_rfl) (fun _ _ _ h => h) ?_ ?_; rotate_left; focus (refine Or.inl ⟨by rfl, ?_⟩; intro _; go_simp; first | done | with_reducible rfl | (rw [if_neg (by omega)]; done) | (rw [if_neg (by omega)]; with_reducible rfl)))
                            try go_simp
                            refine wpAny_ready (rs := [10]) (by kernel_rfl) (by simp) ?_
                            refine AllReady.cons rfl (fun K hK => ?_) ?_
                            ·
                              go_simp
                              refine hK _ _ ?_; clear hK K
                              refine wpAny_done (by kernel_rfl) ?_ _
                              have hF : SprF wr (wr.heap.size + 1) (.slice xo 3 xc) ([hTo] ++ [hA L KX] ++ [hB L KX]) (W3.setCell ⟨wr.heap.size + 1, 4, none⟩ (.slice xo 3 xc)) := hF
                              obtain ⟨W, eW⟩ : ∃ x, x = W3.setCell ⟨wr.heap.size + 1, 4, none⟩ (.slice xo 3 xc) := ⟨_, rfl⟩
                              rw [← eW] at hF
                              try simp only [← eW]
                              clear eW ho3 hb3 hk3
                              have hX := hF.2.2
                              have HLn := Lib.hid (fun wx hx hu => list_c ⟨#[]⟩ ⟨#[]⟩ ⟨#[]⟩ ⟨#[]⟩ 0 (.slice xo 3 xc) ([hTo] ++ [hA L KX] ++ [hB L KX]) wx hx hu (HNB.out) (by simp))
                              rw [HSN.out] at HLn
                              have bmm := HBm.out _ hX
                              obtain ⟨p0, p1, p2, p3, p4, p5⟩ := Blk.f6 bmm
                              obtain ⟨q0, q1, q2, q3, q4, q5⟩ := Blk.f6 hF.1
                              clear bmm
                              go_wp2_with (first | (go_at_call 13; ((with_reducible refine (HLm.out _ (HMR.out _ hX) hX).mono ?_); rintro e w1 ⟨va, rfl, hva, hC1⟩); have hF := hF.call hC1; have hX := hX.trans (hC1.mono hX.size); obtain ⟨q0, q1, q2, q3, q4, q5⟩ := Blk.f6 hF.1; have hNr := hF.2.1.read) | (go_at_call 13; ((with_reducible refine (HLn.out _ (HMR.out _ hX) hNr).mono ?_); rintro e w2 ⟨vb, rfl, hvb, hC2⟩); have hX := hX.trans (hC2.mono hX.size); have hva := hva.below hC2 (Nat.le_refl _)) | (go_at_call 15; ((with_reducible refine (allV_c va (.slice ao L.length cap) L _ hva (HVR.out _ hX)).mono ?_); rintro e w3 ⟨rfl, hC3⟩); have hvb := hvb.below hC3 (Nat.le_refl _); have hX := hX.trans (hC3.mono hX.size)) | (go_at_call 15; ((with_reducible refine (allV_c vb (.slice ao L.length cap) L _ hvb (HVR.out _ hX)).mono ?_); rintro e w4 ⟨rfl, hC4⟩); have hX := hX.trans (hC4.mono hX.size)) | (go_at_call 9; refine (HA.out _ (HMR.out _ hX)).mono ?_; rintro e wz ⟨rfl, hCz⟩))
                              go_ret
                              exact ⟨rfl, HB.out.trans ((hX.trans (hCz.mono hX.size)).mono HB.out.size)⟩
                            exact AllReady.nil
                          exact AllReady.nil
                        exact AllReady.nil
                      exact AllReady.nil
                    refine AllReady.cons rfl (fun K hK => ?_) ?_
                    ·
                      refine step_wB2 (by rfl) rfl Tryd.func24 nmGl bdGl rfl rfl (HG2.out _ hF.2.2 hKlt) ?_; intro W2 hB2
                      have hF := hF.call hB2
                      try go_simp
                      refine hK _ _ ?_; clear hK K
                      first | (refine wpAny_take (i := 6) (v := undef) rfl (by kernel_rfl) (by kernel_rfl) (by kernel_rfl) (fun _ _ _ h => h) (Or.inr ⟨by rfl, rfl⟩) ?_) | (refine wpAny_take (i := 6) (v := ?_) rfl (by kernel_rfl) (by kernel_rfl) (by kernel_rfl) (fun _ _ _ h => h) ?_ ?_; rotate_left; focus (refine Or.inl ⟨by rfl, ?_⟩; intro _; go_simp; first | done | with_reducible rfl | (rw [if_neg (by omega)]; done) | (rw [if_neg (by omega)]; with_reducible rfl)))
                      try go_simp
                      refine wpAny_ready (rs := [1, 7]) (by kernel_rfl) (by simp) ?_
                      refine AllReady.cons rfl (fun K hK => ?_) ?_
                      ·
                        have m4 := boxedCell hF.1 4
                        try go_simp
                        refine hK _ _ ?_; clear hK K
                        refine wpAny_ready (rs := [7]) (by kernel_rfl) (by simp) ?_
                        refine AllReady.cons rfl (fun K hK => ?_) ?_
                        ·
                          have m4a := boxedCell (hF.1.alloc (.cells #[.string ⟨#[118, 105, 97]⟩, .string G2] 37)) 4
                          try go_simp
                          refine hK _ _ ?_; clear hK K
                          refine wpAny_ready (rs := [8]) (by kernel_rfl) (by simp) ?_
                          refine AllReady.cons rfl (fun K hK => ?_) ?_
                          ·
                            refine step_of rfl (op_appKH (hB L KX) rfl HU2.out rfl Tryd.underlying33 infoH rfl rfl hF.2.1 hF.2.2 (Nat.le_refl _) (by simp) ?_); intro v' W3 ho3 hb3 hk3
                            obtain ⟨xo, xc, rfl, _⟩ := Hdrs.len ho3
                            have bm3 := hk3.blk hF.1 (by decide)
                            have m5 := boxedCell bm3 4
                            have f5 := boxedFree bm3 4
                            have z5 := bm3.lt
                            have hF := hF.store hk3 ho3 hb3 (Nat.le_succ _)
                            clear bm3
                            try go_simp
                            refine hK _ _ ?_; clear hK K
                            first | (refine wpAny_take (i := 9) (v := undef) rfl (by kernel_rfl) (by kernel_rfl) (by kernel_rfl) (fun _ _ _ h => h) (Or.inr ⟨by rfl, rfl⟩) ?_) | (refine wpAny_take (i := 9) (v := ?_) rfl (by kernel_rfl) (by kernel_rfl) (by kernel_rfl) (fun _ _ _ h => h) ?_ ?_; rotate_left; focus (refine Or.inl ⟨by rfl, ?_⟩; intro _; go_simp; first | done | with_reducible rfl | (rw [if_neg (by omega)]; done) | (rw [if_neg (by omega)]; with_reducible rfl)))
                            try go_simp
                            refine wpAny_ready (rs := [10]) (by kernel_rfl) (by simp) ?_
                            refine AllReady.cons rfl (fun K hK => ?_) ?_
                            ·
                              go_simp
                              refine hK _ _ ?_; clear hK K
                              refine wpAny_done (by kernel_rfl) ?_ _
                              have hF : SprF wr (wr.heap.size + 1) (.slice xo 3 xc) ([hTo] ++ [hA L KX] ++ [hB L KX]) (W3.setCell ⟨wr.heap.size + 1, 4, none⟩ (.slice xo 3 xc)) := hF
                              obtain ⟨W, eW⟩ : ∃ x, x = W3.setCell ⟨wr.heap.size + 1, 4, none⟩ (.slice xo 3 xc) := ⟨_, rfl⟩
                              rw [← eW] at hF
                              try simp only [← eW]
                              clear eW ho3 hb3 hk3
                              have hX := hF.2.2
                              have HLn := Lib.hid (fun wx hx hu => list_c ⟨#[]⟩ ⟨#[]⟩ ⟨#[]⟩ ⟨#[]⟩ 0 (.slice xo 3 xc) ([hTo] ++ [hA L KX] ++ [hB L KX]) wx hx hu (HNB.out) (by simp))
                              rw [HSN.out] at HLn
                              have bmm := HBm.out _ hX
                              obtain ⟨p0, p1, p2, p3, p4, p5⟩ := Blk.f6 bmm
                              obtain ⟨q0, q1, q2, q3, q4, q5⟩ := Blk.f6 hF.1
                              clear bmm
                              go_wp2_with (first | (go_at_call 13; ((with_reducible refine (HLm.out _ (HMR.out _ hX) hX).mono ?_); rintro e w1 ⟨va, rfl, hva, hC1⟩); have hF := hF.call hC1; have hX := hX.trans (hC1.mono hX.size); obtain ⟨q0, q1, q2, q3, q4, q5⟩ := Blk.f6 hF.1; have hNr := hF.2.1.read) | (go_at_call 13; ((with_reducible refine (HLn.out _ (HMR.out _ hX) hNr).mono ?_); rintro e w2 ⟨vb, rfl, hvb, hC2⟩); have hX := hX.trans (hC2.mono hX.size); have hva := hva.below hC2 (Nat.le_refl _)) | (go_at_call 15; ((with_reducible refine (allV_c va (.slice ao L.length cap) L _ hva (HVR.out _ hX)).mono ?_); rintro e w3 ⟨rfl, hC3⟩); have hvb := hvb.below hC3 (Nat.le_refl _); have hX := hX.trans (hC3.mono hX.size)) | (go_at_call 15; ((with_reducible refine (allV_c vb (.slice ao L.length cap) L _ hvb (HVR.out _ hX)).mono ?_); rintro e w4 ⟨rfl, hC4⟩); have hX := hX.trans (hC4.mono hX.size)) | (go_at_call 9; refine (HA.out _ (HMR.out _ hX)).mono ?_; rintro e wz ⟨rfl, hCz⟩))
                              go_ret
                              exact ⟨rfl, HB.out.trans ((hX.trans (hCz.mono hX.size)).mono HB.out.size)⟩
                            exact AllReady.nil
                          exact AllReady.nil
                        exact AllReady.nil
                      refine AllReady.cons rfl (fun K hK => ?_) ?_
                      ·
                        have m4a := boxedCell (hF.1.alloc (.cells #[.string ⟨#[118, 105, 97]⟩, .string G2] 37)) 4
                        try go_simp
                        refine hK _ _ ?_; clear hK K
                        refine wpAny_ready (rs := [1]) (by kernel_rfl) (by simp) ?_
                        refine AllReady.cons rfl (fun K hK => ?_) ?_
                        ·
                          have m4 := boxedCell hF.1 4
                          try go_simp
                          refine hK _ _ ?_; clear hK K
                          refine wpAny_ready (rs := [8]) (by kernel_rfl) (by simp) ?_
                          refine AllReady.cons rfl (fun K hK => ?_) ?_
                          ·
                            refine step_of rfl (op_appKH (hB L KX) rfl HU2.out rfl Tryd.underlying33 infoH rfl rfl hF.2.1 hF.2.2 (Nat.le_refl _) (by simp) ?_); intro v' W3 ho3 hb3 hk3
                            obtain ⟨xo, xc, rfl, _⟩ := Hdrs.len ho3
                            have bm3 := hk3.blk hF.1 (by decide)
                            have m5 := boxedCell bm3 4
                            have f5 := boxedFree bm3 4
                            have z5 := bm3.lt
                            have hF := hF.store hk3 ho3 hb3 (Nat.le_succ _)
                            clear bm3
                            try go_simp
                            refine hK _ _ ?_; clear hK K
                            first | (refine wpAny_take (i := 9) (v := undef) rfl (by kernel_rfl) (by kernel_rfl) (by kernel_rfl) (fun _ _ _ h => h) (Or.inr ⟨by rfl, rfl⟩) ?_) | (refine wpAny_take (i := 9) (v := ?_) rfl (by kernel_rfl) (by kernel_rfl) (by kernel_rfl) (fun _ _ _ h => h) ?_ ?_; rotate_left; focus (refine Or.inl ⟨by rfl, ?_⟩; intro _; go_simp; first | done | with_reducible rfl | (rw [if_neg (by omega)]; done) | (rw [if_neg (by omega)]; with_reducible rfl)))
                            try go_simp
                            refine wpAny_ready (rs := [10]) (by kernel_rfl) (by simp) ?_
                            refine AllReady.cons rfl (fun K hK => ?_) ?_
                            ·
                              go_simp
                              refine hK _ _ ?_; clear hK K
                              refine wpAny_done (by kernel_rfl) ?_ _
                              have hF : SprF wr (wr.heap.size + 1) (.slice xo 3 xc) ([hTo] ++ [hA L KX] ++ [hB L KX]) (W3.setCell ⟨wr.heap.size + 1, 4, none⟩ (.slice xo 3 xc)) := hF
                              obtain ⟨W, eW⟩ : ∃ x, x = W3.setCell ⟨wr.heap.size + 1, 4, none⟩ (.slice xo 3 xc) := ⟨_, rfl⟩
                              rw [← eW] at hF
                              try simp only [← eW]
                              clear eW ho3 hb3 hk3
                              have hX := hF.2.2
                              have HLn := Lib.hid (fun wx hx hu => list_c ⟨#[]⟩ ⟨#[]⟩ ⟨#[]⟩ ⟨#[]⟩ 0 (.slice xo 3 xc) ([hTo] ++ [hA L KX] ++ [hB L KX]) wx hx hu (HNB.out) (by simp))
                              rw [HSN.out] at HLn
                              have bmm := HBm.out _ hX
                              obtain ⟨p0, p1, p2, p3, p4, p5⟩ := Blk.f6 bmm
                              obtain ⟨q0, q1, q2, q3, q4, q5⟩ := Blk.f6 hF.1
                              clear bmm
                              go_wp2_with (first | (go_at_call 13; ((with_reducible refine (HLm.out _ (HMR.out _ hX) hX).mono ?_); rintro e w1 ⟨va, rfl, hva, hC1⟩); have hF := hF.call hC1; have hX := hX.trans (hC1.mono hX.size); obtain ⟨q0, q1, q2, q3, q4, q5⟩ := Blk.f6 hF.1; have hNr := hF.2.1.read) | (go_at_call 13; ((with_reducible refine (HLn.out _ (HMR.out _ hX) hNr).mono ?_); rintro e w2 ⟨vb, rfl, hvb, hC2⟩); have hX := hX.trans (hC2.mono hX.size); have hva := hva.below hC2 (Nat.le_refl _)) | (go_at_call 15; ((with_reducible refine (allV_c va (.slice ao L.length cap) L _ hva (HVR.out _ hX)).mono ?_); rintro e w3 ⟨rfl, hC3⟩); have hvb := hvb.below hC3 (Nat.le_refl _); have hX := hX.trans (hC3.mono hX.size)) | (go_at_call 15; ((with_reducible refine (allV_c vb (.slice ao L.length cap) L _ hvb (HVR.out _ hX)).mono ?_); rintro e w4 ⟨rfl, hC4⟩); have hX := hX.trans (hC4.mono hX.size)) | (go_at_call 9; refine (HA.out _ (HMR.out _ hX)).mono ?_; rintro e wz ⟨rfl, hCz⟩))
                              go_ret
                              exact ⟨rfl, HB.out.trans ((hX.trans (hCz.mono hX.size)).mono HB.out.size)⟩
                            exact AllReady.nil
                          exact AllReady.nil
                        exact AllReady.nil
                      exact AllReady.nil
                    exact AllReady.nil
                  exact AllReady.nil
                exact AllReady.nil
              exact AllReady.nil
            refine AllReady.cons rfl (fun K hK => ?_) ?_
            ·
              have m4a := boxedCell (hF.1.alloc (.cells #[.string ⟨#[86, 73, 65]⟩, .string G1] 37)) 4
              try go_simp
              refine hK _ _ ?_; clear hK K
              refine wpAny_ready (rs := [1]) (by kernel_rfl) (by simp) ?_
              refine AllReady.cons rfl (fun K hK => ?_) ?_
              ·
                have m4 := boxedCell hF.1 4
                try go_simp
                refine hK _ _ ?_; clear hK K
                refine wpAny_ready (rs := [8]) (by kernel_rfl) (by simp) ?_
                refine AllReady.cons rfl (fun K hK => ?_) ?_
                ·
                  refine step_of rfl (op_appKH (hA L KX) rfl HU1.out rfl Tryd.underlying33 infoH rfl rfl hF.2.1 hF.2.2 (Nat.le_refl _) (by simp) ?_); intro v' W3 ho3 hb3 hk3
                  obtain ⟨xo, xc, rfl, _⟩ := Hdrs.len ho3
                  have bm3 := hk3.blk hF.1 (by decide)
                  have m5 := boxedCell bm3 4
                  have f5 := boxedFree bm3 4
                  have z5 := bm3.lt
                  have hF := hF.store hk3 ho3 hb3 (Nat.le_succ _)
                  clear bm3
                  try go_simp
                  refine hK _ _ ?_; clear hK K
                  first | (refine wpAny_take (i := 9) (v := undef) rfl (by kernel_rfl) (by kernel_rfl) (by kernel_rfl) (fun _ _ _ h => h) (Or.inr ⟨by rfl, rfl⟩) ?_) | (refine wpAny_take (i := 9) (v := ?_) rfl (by kernel_rfl) (by kernel_rfl) (by kernel_rfl) (fun _ _ _ h => h) ?_ ?_; rotate_left; focus (refine Or.inl ⟨by rfl, ?_⟩; intro _; go_simp; first | done | with_reducible rfl | (rw [if_neg (by omega)]; done) | (rw [if_neg (by omega)]; with_reducible rfl)))
                  try go_simp
                  refine wpAny_ready (rs := [10]) (by kernel_rfl) (by simp) ?_
                  refine AllReady.cons rfl (fun K hK => ?_) ?_
                  ·
                    go_simp
                    refine hK _ _ ?_; clear hK K
                    refine wpAny_done (by kernel_rfl) ?_ _
                    have hF : SprF wr (wr.heap.size + 1) (.slice xo 2 xc) ([hTo] ++ [hA L KX]) (W3.setCell ⟨wr.heap.size + 1, 4, none⟩ (.slice xo 2 xc)) := hF
                    obtain ⟨W, eW⟩ : ∃ x, x = W3.setCell ⟨wr.heap.size + 1, 4, none⟩ (.slice xo 2 xc) := ⟨_, rfl⟩
                    rw [← eW] at hF
                    try simp only [← eW]
                    clear eW ho3 hb3 hk3
                    go_wp2
                    have m4 := boxedCell hF.1 4
                    refine wp_region_any (by kernel_rfl) ?_
                    try (change wpAny _ _ _ _ _ _ _ (World.drew _))
                    obtain ⟨W1, e1⟩ : ∃ x, x = World.drew W := ⟨_, rfl⟩
                    have hF := hF.drew
                    rw [← e1] at hF ⊢
                    clear e1 m4
                    first | (refine wpAny_take (i := 0) (v := undef) rfl (by kernel_rfl) (by kernel_rfl) (by kernel_rfl) (fun _ _ _ h => h) (Or.inr ⟨by rfl, rfl⟩) ?_) | (refine wpAny_take (i := 0) (v := ?_) rfl (by kernel_rfl) (by kernel_rfl) (by kernel_rfl) (fun _ _ _ h => h) ?_ ?_; rotate_left; focus (refine Or.inl ⟨by rfl, ?_⟩; intro _; go_simp; first | done | with_reducible rfl | (rw [if_neg (by omega)]; done) | (rw [if_neg (by omega)]; with_reducible rfl)))
                    try go_simp
                    first | (refine wpAny_take (i := 2) (v := undef) rfl (by kernel_rfl) (by kernel_rfl) (by kernel_rfl) (fun _ _ _ h => h) (Or.inr ⟨by rfl, rfl⟩) ?_) | (refine wpAny_take (i := 2) (v := ?_) rfl (by kernel_rfl) (by kernel_rfl) (by kernel_rfl) (fun _ _ _ h => h) ?_ ?_; rotate_left; focus (refine Or.inl ⟨by rfl, ?_⟩; intro _; go_simp; first | done | with_reducible rfl | (rw [if_neg (by omega)]; done) | (rw [if_neg (by omega)]; with_reducible rfl)))
                    try go_simp
                    first | (refine wpAny_take (i := 3) (v := undef) rfl (by kernel_rfl) (by kernel_rfl) (by kernel_rfl) (fun _ _ _ h => h) (Or.inr ⟨by rfl, rfl⟩) ?_) | (refine wpAny_take (i := 3) (v := ?_) rfl (by kernel_rfl) (by kernel_rfl) (by kernel_rfl) (fun _ _ _ h => h) ?_ ?_; rotate_left; focus (refine Or.inl ⟨by rfl, ?_⟩; intro _; go_simp; first | done | with_reducible rfl | (rw [if_neg (by omega)]; done) | (rw [if_neg (by omega)]; with_reducible rfl)))
                    try go_simp
                    first | (refine wpAny_take (i := 4) (v := undef) rfl (by kernel_rfl) (by kernel_rfl) (by kernel_rfl) (fun _ _ _ h => h) (Or.inr ⟨by rfl, rfl⟩) ?_) | (refine wpAny_take (i := 4) (v := ?_) rfl (by kernel_rfl) (by kernel_rfl) (by kernel_rfl) (fun _ _ _ h => h) ?_ ?_; rotate_left; focus (refine Or.inl ⟨by rfl, ?_⟩; intro _; go_simp; first | done | with_reducible rfl | (rw [if_neg (by omega)]; done) | (rw [if_neg (by omega)]; with_reducible rfl)))
                    try go_simp
                    refine wpAny_ready (rs := [1, 5]) (by kernel_rfl) (by simp) ?_
                    refine AllReady.cons rfl (fun K hK => ?_) ?_
                    ·
                      have m4 := boxedCell hF.1 4
                      try go_simp
                      refine hK _ _ ?_; clear hK K
                      refine wpAny_ready (rs := [5]) (by kernel_rfl) (by simp) ?_
                      refine AllReady.cons rfl (fun K hK => ?_) ?_
                      ·
                        refine step_wB2 (by rfl) rfl Tryd.func24 nmGl bdGl rfl rfl (HG2.out _ hF.2.2 hKlt) ?_; intro W2 hB2
                        have hF := hF.call hB2
                        try go_simp
                        refine hK _ _ ?_; clear hK K
                        first | (refine wpAny_take (i := 6) (v := undef) rfl (by kernel_rfl) (by kernel_rfl) (by kernel_rfl) (fun _ _ _ h => h) (Or.inr ⟨by rfl, rfl⟩) ?_) | (refine wpAny_take (i := 6) (v := ?_) rfl (by kernel_rfl) (by kernel_rfl) (by kernel_rfl) (fun _ _ _ h => h) ?_ ?_; rotate_left; focus (refine Or.inl ⟨by rfl, ?_⟩; intro _; go_simp; first | done | with_reducible rfl | (rw [if_neg (by omega)]; done) | (rw [if_neg (by omega)]; with_reducible rfl)))
                        try go_simp
                        refine wpAny_ready (rs := [7]) (by kernel_rfl) (by simp) ?_
                        refine AllReady.cons rfl (fun K hK => ?_) ?_
                        ·
                          have m4a := boxedCell (hF.1.alloc (.cells #[.string ⟨#[118, 105, 97]⟩, .string G2] 37)) 4
                          try go_simp
                          refine hK _ _ ?_; clear hK K
                          refine wpAny_ready (rs := [8]) (by kernel_rfl) (by simp) ?_
                          refine AllReady.cons rfl (fun K hK => ?_) ?_
                          ·
                            refine step_of rfl (op_appKH (hB L KX) rfl HU2.out rfl Tryd.underlying33 infoH rfl rfl hF.2.1 hF.2.2 (Nat.le_refl _) (by simp) ?_); intro v' W3 ho3 hb3 hk3
                            obtain ⟨xo, xc, rfl, _⟩ := Hdrs.len ho3
                            have bm3 := hk3.blk hF.1 (by decide)
                            have m5 := boxedCell bm3 4
                            have f5 := boxedFree bm3 4
                            have z5 := bm3.lt
                            have hF := hF.store hk3 ho3 hb3 (Nat.le_succ _)
                            clear bm3
                            try go_simp
                            refine hK _ _ ?_; clear hK K
                            first | (refine wpAny_take (i := 9) (v := undef) rfl (by kernel_rfl) (by kernel_rfl) (by kernel_rfl) (fun _ _ _ h => h) (Or.inr ⟨by rfl, rfl⟩) ?_) | (refine wpAny_take (i := 9) (v := ?_) rfl (by kernel_rfl) (by kernel_rfl) (by kernel_rfl) (fun _ _ _ h => h) ?_ ?_; rotate_left; focus (refine Or.inl ⟨by rfl, ?_⟩; intro _; go_simp; first | done | with_reducible rfl | (rw [if_neg (by omega)]; done) | (rw [if_neg (by omega)]; with_reducible rfl)))
                            try go_simp
                            refine wpAny_ready (rs := [10]) (by kernel_rfl) (by simp) ?_
                            refine AllReady.cons rfl (fun K hK => ?_) ?_
                            ·
                              go_simp
                              refine hK _ _ ?_; clear hK K
                              refine wpAny_done (by kernel_rfl) ?_ _
                              have hF : SprF wr (wr.heap.size + 1) (.slice xo 3 xc) ([hTo] ++ [hA L KX] ++ [hB L KX]) (W3.setCell ⟨wr.heap.size + 1, 4, none⟩ (.slice xo 3 xc)) := hF
                              obtain ⟨W, eW⟩ : ∃ x, x = W3.setCell ⟨wr.heap.size + 1, 4, none⟩ (.slice xo 3 xc) := ⟨_, rfl⟩
                              rw [← eW] at hF
                              try simp only [← eW]
                              clear eW ho3 hb3 hk3
                              have hX := hF.2.2
                              have HLn := Lib.hid (fun wx hx hu => list_c ⟨#[]⟩ ⟨#[]⟩ ⟨#[]⟩ ⟨#[]⟩ 0 (.slice xo 3 xc) ([hTo] ++ [hA L KX] ++ [hB L KX]) wx hx hu (HNB.out) (by simp))
                              rw [HSN.out] at HLn
                              have bmm := HBm.out _ hX
                              obtain ⟨p0, p1, p2, p3, p4, p5⟩ := Blk.f6 bmm
                              obtain ⟨q0, q1, q2, q3, q4, q5⟩ := Blk.f6 hF.1
                              clear bmm
                              go_wp2_with (first | (go_at_call 13; ((with_reducible refine (HLm.out _ (HMR.out _ hX) hX).mono ?_); rintro e w1 ⟨va, rfl, hva, hC1⟩); have hF := hF.call hC1; have hX := hX.trans (hC1.mono hX.size); obtain ⟨q0, q1, q2, q3, q4, q5⟩ := Blk.f6 hF.1; have hNr := hF.2.1.read) | (go_at_call 13; ((with_reducible refine (HLn.out _ (HMR.out _ hX) hNr).mono ?_); rintro e w2 ⟨vb, rfl, hvb, hC2⟩); have hX := hX.trans (hC2.mono hX.size); have hva := hva.below hC2 (Nat.le_refl _)) | (go_at_call 15; ((with_reducible refine (allV_c va (.slice ao L.length cap) L _ hva (HVR.out _ hX)).mono ?_); rintro e w3 ⟨rfl, hC3⟩); have hvb := hvb.below hC3 (Nat.le_refl _); have hX := hX.trans (hC3.mono hX.size)) | (go_at_call 15; ((with_reducible refine (allV_c vb (.slice ao L.length cap) L _ hvb (HVR.out _ hX)).mono ?_); rintro e w4 ⟨rfl, hC4⟩); have hX := hX.trans (hC4.mono hX.size)) | (go_at_call 9; refine (HA.out _ (HMR.out _ hX)).mono ?_; rintro e wz ⟨rfl, hCz⟩))
                              go_ret
                              exact ⟨rfl, HB.out.trans ((hX.trans (hCz.mono hX.size)).mono HB.out.size)⟩
                            exact AllReady.nil
                          exact AllReady.nil
                        exact AllReady.nil
                      exact AllReady.nil
                    refine AllReady.cons rfl (fun K hK => ?_) ?_
                    ·
                      refine step_wB2 (by rfl) rfl Tryd.func24 nmGl bdGl rfl rfl (HG2.out _ hF.2.2 hKlt) ?_; intro W2 hB2
                      have hF := hF.call hB2
                      try go_simp
                      refine hK _ _ ?_; clear hK K
                      first | (refine wpAny_take (i := 6) (v := undef) rfl (by kernel_rfl) (by kernel_rfl) (by kernel_rfl) (fun _ _ _ h => h) (Or.inr ⟨by rfl, rfl⟩) ?_) | (refine wpAny_take (i := 6) (v := ?_) rfl (by kernel_rfl) (by kernel_rfl) (by kernel_rfl) (fun _ _ _ h => h) ?_ ?_; rotate_left; focus (refine Or.inl ⟨by rfl, ?_⟩; intro _; go_simp; first | done | with_reducible rfl | (rw [if_neg (by omega)]; done) | (rw [if_neg (by omega)]; with_reducible rfl)))
                      try go_simp
                      refine wpAny_ready (rs := [1, 7]) (by kernel_rfl) (by simp) ?_
                      refine AllReady.cons rfl (fun K hK => ?_) ?_
                      ·
                        have m4 := boxedCell hF.1 4
                        try go_simp
                        refine hK _ _ ?_; clear hK K
                        refine wpAny_ready (rs := [7]) (by kernel_rfl) (by simp) ?_
                        refine AllReady.cons rfl (fun K hK => ?_) ?_
                        ·
                          have m4a := boxedCell (hF.1.alloc (.cells #[.string ⟨#[118, 105, 97]⟩, .string G2] 37)) 4
                          try go_simp
                          refine hK _ _ ?_; clear hK K
                          refine wpAny_ready (rs := [8]) (by kernel_rfl) (by simp) ?_
                          refine AllReady.cons rfl (fun K hK => ?_) ?_
                          ·
                            refine step_of rfl (op_appKH (hB L KX) rfl HU2.out rfl Tryd.underlying33 infoH rfl rfl hF.2.1 hF.2.2 (Nat.le_refl _) (by simp) ?_); intro v' W3 ho3 hb3 hk3
                            obtain ⟨xo, xc, rfl, _⟩ := Hdrs.len ho3
                            have bm3 := hk3.blk hF.1 (by decide)
                            have m5 := boxedCell bm3 4
                            have f5 := boxedFree bm3 4
                            have z5 := bm3.lt
                            have hF := hF.store hk3 ho3 hb3 (Nat.le_succ _)
                            clear bm3
                            try go_simp
                            refine hK _ _ ?_; clear hK K
                            first | (refine wpAny_take (i := 9) (v := undef) rfl (by kernel_rfl) (by kernel_rfl) (by kernel_rfl) (fun _ _ _ h => h) (Or.inr ⟨by rfl, rfl⟩) ?_) | (refine wpAny_take (i := 9) (v := ?_) rfl (by kernel_rfl) (by kernel_rfl) (by kernel_rfl) (fun _ _ _ h => h) ?_ ?_; rotate_left; focus (refine Or.inl ⟨by rfl, ?_⟩; intro _; go_simp; first | done | with_reducible rfl | (rw [if_neg (by omega)]; done) | (rw [if_neg (by omega)]; with_reducible rfl)))
                            try go_simp
                            refine wpAny_ready (rs := [10]) (by kernel_rfl) (by simp) ?_
                            refine AllReady.cons rfl (fun K hK => ?_) ?_
                            ·
                              go_simp
                              refine hK _ _ ?_; clear hK K
                              refine wpAny_done (by kernel_rfl) ?_ _
                              have hF : SprF wr (wr.heap.size + 1) (.slice xo 3 xc) ([hTo] ++ [hA L KX] ++ [hB L KX]) (W3.setCell ⟨wr.heap.size + 1, 4, none⟩ (.slice xo 3 xc)) := hF
                              obtain ⟨W, eW⟩ : ∃ x, x = W3.setCell ⟨wr.heap.size + 1, 4, none⟩ (.slice xo 3 xc) := ⟨_, rfl⟩
                              rw [← eW] at hF
                              try simp only [← eW]
                              clear eW ho3 hb3 hk3
                              have hX := hF.2.2
                              have HLn := Lib.hid (fun wx hx hu => list_c ⟨#[]⟩ ⟨#[]⟩ ⟨#[]⟩ ⟨#[]⟩ 0 (.slice xo 3 xc) ([hTo] ++ [hA L KX] ++ [hB L KX]) wx hx hu (HNB.out) (by simp))
                              rw [HSN.out] at HLn
                              have bmm := HBm.out _ hX
                              obtain ⟨p0, p1, p2, p3, p4, p5⟩ := Blk.f6 bmm
                              obtain ⟨q0, q1, q2, q3, q4, q5⟩ := Blk.f6 hF.1
                              clear bmm
                              go_wp2_with (first | (go_at_call 13; ((with_reducible refine (HLm.out _ (HMR.out _ hX) hX).mono ?_); rintro e w1 ⟨va, rfl, hva, hC1⟩); have hF := hF.call hC1; have hX := hX.trans (hC1.mono hX.size); obtain ⟨q0, q1, q2, q3, q4, q5⟩ := Blk.f6 hF.1; have hNr := hF.2.1.read) | (go_at_call 13; ((with_reducible refine (HLn.out _ (HMR.out _ hX) hNr).mono ?_); rintro e w2 ⟨vb, rfl, hvb, hC2⟩); have hX := hX.trans (hC2.mono hX.size); have hva := hva.below hC2 (Nat.le_refl _)) | (go_at_call 15; ((with_reducible refine (allV_c va (.slice ao L.length cap) L _ hva (HVR.out _ hX)).mono ?_); rintro e w3 ⟨rfl, hC3⟩); have hvb := hvb.below hC3 (Nat.le_refl _); have hX := hX.trans (hC3.mono hX.size)) | (go_at_call 15; ((with_reducible refine (allV_c vb (.slice ao L.length cap) L _ hvb (HVR.out _ hX)).mono ?_); rintro e w4 ⟨rfl, hC4⟩); have hX := hX.trans (hC4.mono hX.size)) | (go_at_call 9; refine (HA.out _ (HMR.out _ hX)).mono ?_; rintro e wz ⟨rfl, hCz⟩))
                              go_ret
                              exact ⟨rfl, HB.out.trans ((hX.trans (hCz.mono hX.size)).mono HB.out.size)⟩
                            exact AllReady.nil
                          exact AllReady.nil
                        exact AllReady.nil
                      refine AllReady.cons rfl (fun K hK => ?_) ?_
                      ·
                        have m4a := boxedCell (hF.1.alloc (.cells #[.string ⟨#[118, 105, 97]⟩, .string G2] 37)) 4
                        try go_simp
                        refine hK _ _ ?_; clear hK K
                        refine wpAny_ready (rs := [1]) (by kernel_rfl) (by simp) ?_
                        refine AllReady.cons rfl (fun K hK => ?_) ?_
                        ·
                          have m4 := boxedCell hF.1 4
                          try go_simp
                          refine hK _ _ ?_; clear hK K
                          refine wpAny_ready (rs := [8]) (by kernel_rfl) (by simp) ?_
                          refine AllReady.cons rfl (fun K hK => ?_) ?_
                          ·
                            refine step_of rfl (op_appKH (hB L KX) rfl HU2.out rfl Tryd.underlying33 infoH rfl rfl hF.2.1 hF.2.2 (Nat.le_refl _) (by simp) ?_); intro v' W3 ho3 hb3 hk3
                            obtain ⟨xo, xc, rfl, _⟩ := Hdrs.len ho3
                            have bm3 := hk3.blk hF.1 (by decide)
                            have m5 := boxedCell bm3 4
                            have f5 := boxedFree bm3 4
                            have z5 := bm3.lt
                            have hF := hF.store hk3 ho3 hb3 (Nat.le_succ _)
                            clear bm3
                            try go_simp
                            refine hK _ _ ?_; clear hK K
                            first | (refine wpAny_take (i := 9) (v := undef) rfl (by kernel_rfl) (by kernel_rfl) (by kernel_rfl) (fun _ _ _ h => h) (Or.inr ⟨by rfl, rfl⟩) ?_) | (refine wpAny_take (i := 9) (v := ?_) rfl (by kernel_rfl) (by kernel_rfl) (by kernel_rfl) (fun _ _ _ h => h) ?_ ?_; rotate_left; focus (refine Or.inl ⟨by rfl, ?_⟩; intro _; go_simp; first | done | with_reducible rfl | (rw [if_neg (by omega)]; done) | (rw [if_neg (by omega)]; with_reducible rfl)))
                            try go_simp
                            refine wpAny_ready (rs := [10]) (by kernel_rfl) (by simp) ?_
                            refine AllReady.cons rfl (fun K hK => ?_) ?_
                            ·
                              go_simp
                              refine hK _ _ ?_; clear hK K
                              refine wpAny_done (by kernel_rfl) ?_ _
                              have hF : SprF wr (wr.heap.size + 1) (.slice xo 3 xc) ([hTo] ++ [hA L KX] ++ [hB L KX]) (W3.setCell ⟨wr.heap.size + 1, 4, none⟩ (.slice xo 3 xc)) := hF
                              obtain ⟨W, eW⟩ : ∃ x, x = W3.setCell ⟨wr.heap.size + 1, 4, none⟩ (.slice xo 3 xc) := ⟨_, rfl⟩
                              rw [← eW] at hF
                              try simp only [← eW]
                              clear eW ho3 hb3 hk3
                              have hX := hF.2.2
                              have HLn := Lib.hid (fun wx hx hu => list_c ⟨#[]⟩ ⟨#[]⟩ ⟨#[]⟩ ⟨#[]⟩ 0 (.slice xo 3 xc) ([hTo] ++ [hA L KX] ++ [hB L KX]) wx hx hu (HNB.out) (by simp))
                              rw [HSN.out] at HLn
                              have bmm := HBm.out _ hX
                              obtain ⟨p0, p1, p2, p3, p4, p5⟩ := Blk.f6 bmm
                              obtain ⟨q0, q1, q2, q3, q4, q5⟩ := Blk.f6 hF.1
                              clear bmm
                              go_wp2_with (first | (go_at_call 13; ((with_reducible refine (HLm.out _ (HMR.out _ hX) hX).mono ?_); rintro e w1 ⟨va, rfl, hva, hC1⟩); have hF := hF.call hC1; have hX := hX.trans (hC1.mono hX.size); obtain ⟨q0, q1, q2, q3, q4, q5⟩ := Blk.f6 hF.1; have hNr := hF.2.1.read) | (go_at_call 13; ((with_reducible refine (HLn.out _ (HMR.out _ hX) hNr).mono ?_); rintro e w2 ⟨vb, rfl, hvb, hC2⟩); have hX := hX.trans (hC2.mono hX.size); have hva := hva.below hC2 (Nat.le_refl _)) | (go_at_call 15; ((with_reducible refine (allV_c va (.slice ao L.length cap) L _ hva (HVR.out _ hX)).mono ?_); rintro e w3 ⟨rfl, hC3⟩); have hvb := hvb.below hC3 (Nat.le_refl _); have hX := hX.trans (hC3.mono hX.size)) | (go_at_call 15; ((with_reducible refine (allV_c vb (.slice ao L.length cap) L _ hvb (HVR.out _ hX)).mono ?_); rintro e w4 ⟨rfl, hC4⟩); have hX := hX.trans (hC4.mono hX.size)) | (go_at_call 9; refine (HA.out _ (HMR.out _ hX)).mono ?_; rintro e wz ⟨rfl, hCz⟩))
                              go_ret
                              exact ⟨rfl, HB.out.trans ((hX.trans (hCz.mono hX.size)).mono HB.out.size)⟩
                            exact AllReady.nil
                          exact AllReady.nil
                        exact AllReady.nil
                      exact AllReady.nil
                    exact AllReady.nil
                  exact AllReady.nil
                exact AllReady.nil
              exact AllReady.nil
            exact AllReady.nil
          exact AllReady.nil
        · have k0 : (0 : Int) < (KX : Int) := by omega
          have k3 : (KX : Int) ≤ (tcap : Int) := by omega
          have k1 : (KX : Int) ≤ (L.length : Int) := by omega
          have k2 : ¬ ((KX : Int) < (L.length : Int)) := by omega
          have HNB := Lib.hid (hdrsB L KX (by omega) HC.out).1
          have HSN := Lib.hid (show listV (allS ([hTo] ++ [hA L KX]) nVia) = (L, 0) by have := HSN.out; rw [if_pos h0KX, if_neg hKlt] at this; simpa using this)
          go_wp2
          obtain ⟨W, eW⟩ : ∃ x, x = (wr.alloc (.cells #[.string ⟨#[84, 111]⟩, .string ⟨#[120]⟩] 37)).alloc (.cells #[.string ⟨#[]⟩, .string ⟨#[]⟩, .int .i64 0, .string ⟨#[]⟩, (.slice (some ⟨wr.heap.size, 0, none⟩) 1 1), .string ⟨#[]⟩] 35) := ⟨_, rfl⟩
          have hF : SprF wr (wr.heap.size + 1) (.slice (some ⟨wr.heap.size, 0, none⟩) 1 1) [hTo] W := by
            rw [eW]
            refine ⟨?_, (hdr_built wr wr.heap.size ⟨#[84, 111]⟩ ⟨#[120]⟩ hTo rfl rfl (Nat.le_refl _)).below ((Below.refl _ _).alloc (Nat.le_refl _) _) (Nat.le_refl _), ((Below.refl _ _).alloc (Nat.le_refl _) _).alloc (by rw [World.size_alloc]; omega) _⟩
            rw [show wr.heap.size + 1 = (wr.alloc (.cells #[.string ⟨#[84, 111]⟩, .string ⟨#[120]⟩] 37)).heap.size from (World.size_alloc _ _).symm]
            exact Blk.new _ _ _
          try simp only [← eW]
          clear eW
          have m4 := boxedCell hF.1 4
          refine wp_region_any (by kernel_rfl) ?_
          try (change wpAny _ _ _ _ _ _ _ (World.drew _))
          obtain ⟨W1, e1⟩ : ∃ x, x = World.drew W := ⟨_, rfl⟩
          have hF := hF.drew
          rw [← e1] at hF ⊢
          clear e1 m4
          first | (refine wpAny_take (i := 0) (v := undef) rfl (by kernel_rfl) (by kernel_rfl) (by kernel_rfl) (fun _ _ _ h => h) (Or.inr ⟨by rfl, rfl⟩) ?_) | (refine wpAny_take (i := 0) (v := ?_) rfl (by kernel_rfl) (by kernel_rfl) (by kernel_rfl) (fun _ _ _ h => h) ?_ ?_; rotate_left; focus (refine Or.inl ⟨by rfl, ?_⟩; intro _; go_simp; first | done | with_reducible rfl | (rw [if_neg (by omega)]; done) | (rw [if_neg (by omega)]; with_reducible rfl)))
          try go_simp
          first | (refine wpAny_take (i := 2) (v := undef) rfl (by kernel_rfl) (by kernel_rfl) (by kernel_rfl) (fun _ _ _ h => h) (Or.inr ⟨by rfl, rfl⟩) ?_) | (refine wpAny_take (i := 2) (v := ?_) rfl (by kernel_rfl) (by kernel_rfl) (by kernel_rfl) (fun _ _ _ h => h) ?_ ?_; rotate_left; focus (refine Or.inl ⟨by rfl, ?_⟩; intro _; go_simp; first | done | with_reducible rfl | (rw [if_neg (by omega)]; done) | (rw [if_neg (by omega)]; with_reducible rfl)))
          try go_simp
          first | (refine wpAny_take (i := 3) (v := undef) rfl (by kernel_rfl) (by kernel_rfl) (by kernel_rfl) (fun _ _ _ h => h) (Or.inr ⟨by rfl, rfl⟩) ?_) | (refine wpAny_take (i := 3) (v := ?_) rfl (by kernel_rfl) (by kernel_rfl) (by kernel_rfl) (fun _ _ _ h => h) ?_ ?_; rotate_left; focus (refine Or.inl ⟨by rfl, ?_⟩; intro _; go_simp; first | done | with_reducible rfl | (rw [if_neg (by omega)]; done) | (rw [if_neg (by omega)]; with_reducible rfl)))
          try go_simp
          first | (refine wpAny_take (i := 4) (v := undef) rfl (by kernel_rfl) (by kernel_rfl) (by kernel_rfl) (fun _ _ _ h => h) (Or.inr ⟨by rfl, rfl⟩) ?_) | (refine wpAny_take (i := 4) (v := ?_) rfl (by kernel_rfl) (by kernel_rfl) (by kernel_rfl) (fun _ _ _ h => h) ?_ ?_; rotate_left; focus (refine Or.inl ⟨by rfl, ?_⟩; intro _; go_simp; first | done | with_reducible rfl | (rw [if_neg (by omega)]; done) | (rw [if_neg (by omega)]; with_reducible rfl)))
          try go_simp
          refine wpAny_ready (rs := [1, 5]) (by kernel_rfl) (by simp) ?_
          refine AllReady.cons rfl (fun K hK => ?_) ?_
          ·
            have m4 := boxedCell hF.1 4
            try go_simp
            refine hK _ _ ?_; clear hK K
            refine wpAny_ready (rs := [5]) (by kernel_rfl) (by simp) ?_
            refine AllReady.cons rfl (fun K hK => ?_) ?_
            ·
              refine step_wB2 (by rfl) rfl Tryd.func24 nmGl bdGl rfl rfl (HG1.out _ hF.2.2) ?_; intro W2 hB2
              have hF := hF.call hB2
              try go_simp
              refine hK _ _ ?_; clear hK K
              first | (refine wpAny_take (i := 6) (v := undef) rfl (by kernel_rfl) (by kernel_rfl) (by kernel_rfl) (fun _ _ _ h => h) (Or.inr ⟨by rfl, rfl⟩) ?_) | (refine wpAny_take (i := 6) (v := ?_) rfl (by kernel_rfl) (by kernel_rfl) (by kernel_rfl) (fun _ _ _ h => h) ?_ ?_; rotate_left; focus (refine Or.inl ⟨by rfl, ?_⟩; intro _; go_simp; first | done | with_reducible rfl | (rw [if_neg (by omega)]; done) | (rw [if_neg (by omega)]; with_reducible rfl)))
              try go_simp
              refine wpAny_ready (rs := [7]) (by kernel_rfl) (by simp) ?_
              refine AllReady.cons rfl (fun K hK => ?_) ?_
              ·
                have m4a := boxedCell (hF.1.alloc (.cells #[.string ⟨#[86, 73, 65]⟩, .string G1] 37)) 4
                try go_simp
                refine hK _ _ ?_; clear hK K
                refine wpAny_ready (rs := [8]) (by kernel_rfl) (by simp) ?_
                refine AllReady.cons rfl (fun K hK => ?_) ?_
                ·
                  refine step_of rfl (op_appKH (hA L KX) rfl HU1.out rfl Tryd.underlying33 infoH rfl rfl hF.2.1 hF.2.2 (Nat.le_refl _) (by simp) ?_); intro v' W3 ho3 hb3 hk3
                  obtain ⟨xo, xc, rfl, _⟩ := Hdrs.len ho3
                  have bm3 := hk3.blk hF.1 (by decide)
                  have m5 := boxedCell bm3 4
                  have f5 := boxedFree bm3 4
                  have z5 := bm3.lt
                  have hF := hF.store hk3 ho3 hb3 (Nat.le_succ _)
                  clear bm3
                  try go_simp
                  refine hK _ _ ?_; clear hK K
                  first | (refine wpAny_take (i := 9) (v := undef) rfl (by kernel_rfl) (by kernel_rfl) (by kernel_rfl) (fun _ _ _ h => h) (Or.inr ⟨by rfl, rfl⟩) ?_) | (refine wpAny_take (i := 9) (v := ?_) rfl (by kernel_rfl) (by kernel_rfl) (by kernel_rfl) (fun _ _ _ h => h) ?_ ?_; rotate_left; focus (refine Or.inl ⟨by rfl, ?_⟩; intro _; go_simp; first | done | with_reducible rfl | (rw [if_neg (by omega)]; done) | (rw [if_neg (by omega)]; with_reducible rfl)))
                  try go_simp
                  refine wpAny_ready (rs := [10]) (by kernel_rfl) (by simp) ?_
                  refine AllReady.cons rfl (fun K hK => ?_) ?_
                  ·
                    go_simp
                    refine hK _ _ ?_; clear hK K
                    refine wpAny_done (by kernel_rfl) ?_ _
                    have hF : SprF wr (wr.heap.size + 1) (.slice xo 2 xc) ([hTo] ++ [hA L KX]) (W3.setCell ⟨wr.heap.size + 1, 4, none⟩ (.slice xo 2 xc)) := hF
                    obtain ⟨W, eW⟩ : ∃ x, x = W3.setCell ⟨wr.heap.size + 1, 4, none⟩ (.slice xo 2 xc) := ⟨_, rfl⟩
                    rw [← eW] at hF
                    try simp only [← eW]
                    clear eW ho3 hb3 hk3
                    have hX := hF.2.2
                    have HLn := Lib.hid (fun wx hx hu => list_c ⟨#[]⟩ ⟨#[]⟩ ⟨#[]⟩ ⟨#[]⟩ 0 (.slice xo 2 xc) ([hTo] ++ [hA L KX]) wx hx hu (HNB.out) (by simp))
                    rw [HSN.out] at HLn
                    have bmm := HBm.out _ hX
                    obtain ⟨p0, p1, p2, p3, p4, p5⟩ := Blk.f6 bmm
                    obtain ⟨q0, q1, q2, q3, q4, q5⟩ := Blk.f6 hF.1
                    clear bmm
                    go_wp2_with (first | (go_at_call 13; ((with_reducible refine (HLm.out _ (HMR.out _ hX) hX).mono ?_); rintro e w1 ⟨va, rfl, hva, hC1⟩); have hF := hF.call hC1; have hX := hX.trans (hC1.mono hX.size); obtain ⟨q0, q1, q2, q3, q4, q5⟩ := Blk.f6 hF.1; have hNr := hF.2.1.read) | (go_at_call 13; ((with_reducible refine (HLn.out _ (HMR.out _ hX) hNr).mono ?_); rintro e w2 ⟨vb, rfl, hvb, hC2⟩); have hX := hX.trans (hC2.mono hX.size); have hva := hva.below hC2 (Nat.le_refl _)) | (go_at_call 15; ((with_reducible refine (allV_c va (.slice ao L.length cap) L _ hva (HVR.out _ hX)).mono ?_); rintro e w3 ⟨rfl, hC3⟩); have hvb := hvb.below hC3 (Nat.le_refl _); have hX := hX.trans (hC3.mono hX.size)) | (go_at_call 15; ((with_reducible refine (allV_c vb (.slice ao L.length cap) L _ hvb (HVR.out _ hX)).mono ?_); rintro e w4 ⟨rfl, hC4⟩); have hX := hX.trans (hC4.mono hX.size)) | (go_at_call 9; refine (HA.out _ (HMR.out _ hX)).mono ?_; rintro e wz ⟨rfl, hCz⟩))
                    go_ret
                    exact ⟨rfl, HB.out.trans ((hX.trans (hCz.mono hX.size)).mono HB.out.size)⟩
                  exact AllReady.nil
                exact AllReady.nil
              exact AllReady.nil
            exact AllReady.nil
          refine AllReady.cons rfl (fun K hK => ?_) ?_
          ·
            refine step_wB2 (by rfl) rfl Tryd.func24 nmGl bdGl rfl rfl (HG1.out _ hF.2.2) ?_; intro W2 hB2
            have hF := hF.call hB2
            try go_simp
            refine hK _ _ ?_; clear hK K
            first | (refine wpAny_take (i := 6) (v := undef) rfl (by kernel_rfl) (by kernel_rfl) (by kernel_rfl) (fun _ _ _ h => h) (Or.inr ⟨by rfl, rfl⟩) ?_) | (refine wpAny_take (i := 6) (v := ?_) rfl (by kernel_rfl) (by kernel_rfl) (by kernel_rfl) (fun _ _ _ h => h) ?_ ?_; rotate_left; focus (refine Or.inl ⟨by rfl, ?_⟩; intro _; go_simp; first | done | with_reducible rfl | (rw [if_neg (by omega)]; done) | (rw [if_neg (by omega)]; with_reducible rfl)))
            try go_simp
            refine wpAny_ready (rs := [1, 7]) (by kernel_rfl) (by simp) ?_
            refine AllReady.cons rfl (fun K hK => ?_) ?_
            ·
              have m4 := boxedCell hF.1 4
              try go_simp
              refine hK _ _ ?_; clear hK K
              refine wpAny_ready (rs := [7]) (by kernel_rfl) (by simp) ?_
              refine AllReady.cons rfl (fun K hK => ?_) ?_
              ·
                have m4a := boxedCell (hF.1.alloc (.cells #[.string ⟨#[86, 73, 65]⟩, .string G1] 37)) 4
                try go_simp
                refine hK _ _ ?_; clear hK K
                refine wpAny_ready (rs := [8]) (by kernel_rfl) (by simp) ?_
                refine AllReady.cons rfl (fun K hK => ?_) ?_
                ·
                  refine step_of rfl (op_appKH (hA L KX) rfl HU1.out rfl Tryd.underlying33 infoH rfl rfl hF.2.1 hF.2.2 (Nat.le_refl _) (by simp) ?_); intro v' W3 ho3 hb3 hk3
                  obtain ⟨xo, xc, rfl, _⟩ := Hdrs.len ho3
                  have bm3 := hk3.blk hF.1 (by decide)
                  have m5 := boxedCell bm3 4
                  have f5 := boxedFree bm3 4
                  have z5 := bm3.lt
                  have hF := hF.store hk3 ho3 hb3 (Nat.le_succ _)
                  clear bm3
                  try go_simp
                  refine hK _ _ ?_; clear hK K
                  first | (refine wpAny_take (i := 9) (v := undef) rfl (by kernel_rfl) (by kernel_rfl) (by kernel_rfl) (fun _ _ _ h => h) (Or.inr ⟨by rfl, rfl⟩) ?_) | (refine wpAny_take (i := 9) (v := ?_) rfl (by kernel_rfl) (by kernel_rfl) (by kernel_rfl) (fun _ _ _ h => h) ?_ ?_; rotate_left; focus (refine Or.inl ⟨by rfl, ?_⟩; intro _; go_simp; first | done | with_reducible rfl | (rw [if_neg (by omega)]; done) | (rw [if_neg (by omega)]; with_reducible rfl)))
                  try go_simp
                  refine wpAny_ready (rs := [10]) (by kernel_rfl) (by simp) ?_
                  refine AllReady.cons rfl (fun K hK => ?_) ?_
                  ·
                    go_simp
                    refine hK _ _ ?_; clear hK K
                    refine wpAny_done (by kernel_rfl) ?_ _
                    have hF : SprF wr (wr.heap.size + 1) (.slice xo 2 xc) ([hTo] ++ [hA L KX]) (W3.setCell ⟨wr.heap.size + 1, 4, none⟩ (.slice xo 2 xc)) := hF
                    obtain ⟨W, eW⟩ : ∃ x, x = W3.setCell ⟨wr.heap.size + 1, 4, none⟩ (.slice xo 2 xc) := ⟨_, rfl⟩
                    rw [← eW] at hF
                    try simp only [← eW]
                    clear eW ho3 hb3 hk3
                    have hX := hF.2.2
                    have HLn := Lib.hid (fun wx hx hu => list_c ⟨#[]⟩ ⟨#[]⟩ ⟨#[]⟩ ⟨#[]⟩ 0 (.slice xo 2 xc) ([hTo] ++ [hA L KX]) wx hx hu (HNB.out) (by simp))
                    rw [HSN.out] at HLn
                    have bmm := HBm.out _ hX
                    obtain ⟨p0, p1, p2, p3, p4, p5⟩ := Blk.f6 bmm
                    obtain ⟨q0, q1, q2, q3, q4, q5⟩ := Blk.f6 hF.1
                    clear bmm
                    go_wp2_with (first | (go_at_call 13; ((with_reducible refine (HLm.out _ (HMR.out _ hX) hX).mono ?_); rintro e w1 ⟨va, rfl, hva, hC1⟩); have hF := hF.call hC1; have hX := hX.trans (hC1.mono hX.size); obtain ⟨q0, q1, q2, q3, q4, q5⟩ := Blk.f6 hF.1; have hNr := hF.2.1.read) | (go_at_call 13; ((with_reducible refine (HLn.out _ (HMR.out _ hX) hNr).mono ?_); rintro e w2 ⟨vb, rfl, hvb, hC2⟩); have hX := hX.trans (hC2.mono hX.size); have hva := hva.below hC2 (Nat.le_refl _)) | (go_at_call 15; ((with_reducible refine (allV_c va (.slice ao L.length cap) L _ hva (HVR.out _ hX)).mono ?_); rintro e w3 ⟨rfl, hC3⟩); have hvb := hvb.below hC3 (Nat.le_refl _); have hX := hX.trans (hC3.mono hX.size)) | (go_at_call 15; ((with_reducible refine (allV_c vb (.slice ao L.length cap) L _ hvb (HVR.out _ hX)).mono ?_); rintro e w4 ⟨rfl, hC4⟩); have hX := hX.trans (hC4.mono hX.size)) | (go_at_call 9; refine (HA.out _ (HMR.out _ hX)).mono ?_; rintro e wz ⟨rfl, hCz⟩))
                    go_ret
                    exact ⟨rfl, HB.out.trans ((hX.trans (hCz.mono hX.size)).mono HB.out.size)⟩
                  exact AllReady.nil
                exact AllReady.nil
              exact AllReady.nil
            refine AllReady.cons rfl (fun K hK => ?_) ?_
            ·
              have m4a := boxedCell (hF.1.alloc (.cells #[.string ⟨#[86, 73, 65]⟩, .string G1] 37)) 4
              try go_simp
              refine hK _ _ ?_; clear hK K
              refine wpAny_ready (rs := [1]) (by kernel_rfl) (by simp) ?_
              refine AllReady.cons rfl (fun K hK => ?_) ?_
              ·
                have m4 := boxedCell hF.1 4
                try go_simp
                refine hK _ _ ?_; clear hK K
                refine wpAny_ready (rs := [8]) (by kernel_rfl) (by simp) ?_
                refine AllReady.cons rfl (fun K hK => ?_) ?_
                ·
                  refine step_of rfl (op_appKH (hA L KX) rfl HU1.out rfl Tryd.underlying33 infoH rfl rfl hF.2.1 hF.2.2 (Nat.le_refl _) (by simp) ?_); intro v' W3 ho3 hb3 hk3
                  obtain ⟨xo, xc, rfl, _⟩ := Hdrs.len ho3
                  have bm3 := hk3.blk hF.1 (by decide)
                  have m5 := boxedCell bm3 4
                  have f5 := boxedFree bm3 4
                  have z5 := bm3.lt
                  have hF := hF.store hk3 ho3 hb3 (Nat.le_succ _)
                  clear bm3
                  try go_simp
                  refine hK _ _ ?_; clear hK K
                  first | (refine wpAny_take (i := 9) (v := undef) rfl (by kernel_rfl) (by kernel_rfl) (by kernel_rfl) (fun _ _ _ h => h) (Or.inr ⟨by rfl, rfl⟩) ?_) | (refine wpAny_take (i := 9) (v := ?_) rfl (by kernel_rfl) (by kernel_rfl) (by kernel_rfl) (fun _ _ _ h => h) ?_ ?_; rotate_left; focus (refine Or.inl ⟨by rfl, ?_⟩; intro _; go_simp; first | done | with_reducible rfl | (rw [if_neg (by omega)]; done) | (rw [if_neg (by omega)]; with_reducible rfl)))
                  try go_simp
                  refine wpAny_ready (rs := [10]) (by kernel_rfl) (by simp) ?_
                  refine AllReady.cons rfl (fun K hK => ?_) ?_
                  ·
                    go_simp
                    refine hK _ _ ?_; clear hK K
                    refine wpAny_done (by kernel_rfl) ?_ _
                    have hF : SprF wr (wr.heap.size + 1) (.slice xo 2 xc) ([hTo] ++ [hA L KX]) (W3.setCell ⟨wr.heap.size + 1, 4, none⟩ (.slice xo 2 xc)) := hF
                    obtain ⟨W, eW⟩ : ∃ x, x = W3.setCell ⟨wr.heap.size + 1, 4, none⟩ (.slice xo 2 xc) := ⟨_, rfl⟩
                    rw [← eW] at hF
                    try simp only [← eW]
                    clear eW ho3 hb3 hk3
                    have hX := hF.2.2
                    have HLn := Lib.hid (fun wx hx hu => list_c ⟨#[]⟩ ⟨#[]⟩ ⟨#[]⟩ ⟨#[]⟩ 0 (.slice xo 2 xc) ([hTo] ++ [hA L KX]) wx hx hu (HNB.out) (by simp))
                    rw [HSN.out] at HLn
                    have bmm := HBm.out _ hX
                    obtain ⟨p0, p1, p2, p3, p4, p5⟩ := Blk.f6 bmm
                    obtain ⟨q0, q1, q2, q3, q4, q5⟩ := Blk.f6 hF.1
                    clear bmm
                    go_wp2_with (first | (go_at_call 13; ((with_reducible refine (HLm.out _ (HMR.out _ hX) hX).mono ?_); rintro e w1 ⟨va, rfl, hva, hC1⟩); have hF := hF.call hC1; have hX := hX.trans (hC1.mono hX.size); obtain ⟨q0, q1, q2, q3, q4, q5⟩ := Blk.f6 hF.1; have hNr := hF.2.1.read) | (go_at_call 13; ((with_reducible refine (HLn.out _ (HMR.out _ hX) hNr).mono ?_); rintro e w2 ⟨vb, rfl, hvb, hC2⟩); have hX := hX.trans (hC2.mono hX.size); have hva := hva.below hC2 (Nat.le_refl _)) | (go_at_call 15; ((with_reducible refine (allV_c va (.slice ao L.length cap) L _ hva (HVR.out _ hX)).mono ?_); rintro e w3 ⟨rfl, hC3⟩); have hvb := hvb.below hC3 (Nat.le_refl _); have hX := hX.trans (hC3.mono hX.size)) | (go_at_call 15; ((with_reducible refine (allV_c vb (.slice ao L.length cap) L _ hvb (HVR.out _ hX)).mono ?_); rintro e w4 ⟨rfl, hC4⟩); have hX := hX.trans (hC4.mono hX.size)) | (go_at_call 9; refine (HA.out _ (HMR.out _ hX)).mono ?_; rintro e wz ⟨rfl, hCz⟩))
                    go_ret
                    exact ⟨rfl, HB.out.trans ((hX.trans (hCz.mono hX.size)).mono HB.out.size)⟩
                  exact AllReady.nil
                exact AllReady.nil
              exact AllReady.nil
            exact AllReady.nil
          exact AllReady.nil

end Go.Proofs.YtjohecbmeoalaaaDoor
