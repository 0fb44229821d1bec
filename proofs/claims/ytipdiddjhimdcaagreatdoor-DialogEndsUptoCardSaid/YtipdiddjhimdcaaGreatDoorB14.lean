/-
  Packed: XRpk, XSme, XRad, XDlg, XArk.
-/
import Derived.Test.YtipdiddjhimdcaaGreatDoorB10
import Derived.Test.YtipdiddjhimdcaaGreatDoorB11
import Derived.Test.YtipdiddjhimdcaaGreatDoorB13
import Derived.Test.YtipdiddjhimdcaaGreatDoorB06
namespace Go.Proofs.YtipdiddjhimdcaaGreatDoor
set_option linter.unusedSimpArgs false
set_option linter.unusedVariables false
open Go.RowKit Go.Sort

theorem ang_at : ∀ (n : Nat) (l : List UInt8) (q : Bool) (k : Nat) (m : Nat), l.length ≤ n → angGo q l (k : Int) = ((k + m : Nat) : Int) → ∃ c, l[m]? = some c ∧ c.toNat = 60
  | n, [], q, k, m, _, h => by rw [ang_end] at h; omega
  | 0, c :: r, q, k, m, hl, _ => by simp at hl
  | n + 1, c :: r, q, k, m, hl, h => by
    rw [List.length_cons] at hl
    by_cases h1 : q = true ∧ c.toNat = 92
    · cases r with
      | nil => rw [angGo.eq_def] at h; dsimp only at h; rw [if_pos h1] at h; omega
      | cons d r =>
        obtain ⟨rfl, h2⟩ := h1
        rw [ang_esc _ _ _ _ h2] at h
        have hge := ang_ge n r true ((k + 2 : Nat) : Int) (by simp at hl; omega) (by omega)
        rw [show (k : Int) + 2 = ((k + 2 : Nat) : Int) by omega] at h
        have hm : 2 ≤ m := by rcases hge with g | g <;> omega
        obtain ⟨m', rfl⟩ : ∃ m', m = m' + 2 := ⟨m - 2, by omega⟩
        exact ang_at n r true (k + 2) m' (by simp at hl; omega) (by rw [h]; omega)
    · rw [ang_cons _ _ _ _ h1] at h
      have step : ∀ q', angGo q' r ((k : Int) + 1) = ((k + m : Nat) : Int) → ∃ c', (c :: r)[m]? = some c' ∧ c'.toNat = 60 := by
        intro q' h'
        have hge := ang_ge n r q' ((k + 1 : Nat) : Int) (by omega) (by omega)
        rw [show (k : Int) + 1 = ((k + 1 : Nat) : Int) by omega] at h'
        have hm : 1 ≤ m := by rcases hge with g | g <;> omega
        obtain ⟨m', rfl⟩ : ∃ m', m = m' + 1 := ⟨m - 1, by omega⟩
        exact ang_at n r q' (k + 1) m' (by omega) (by rw [h']; omega)
      split at h
      · exact step _ h
      · split at h
        · rename_i h3
          obtain rfl : m = 0 := by omega
          exact ⟨c, rfl, h3.2⟩
        · exact step _ h
theorem ang_has (T : ByteArray) (k : Nat) (hk : k < T.size) (h : angS (us T) = (k : Int)) : hasb ((us T).drop k) 62 = (cutb 62 ((us T).drop (k + 1))).2.2 := by
  obtain ⟨c, h1, h2⟩ := ang_at (us T).length (us T) false 0 k (Nat.le_refl _) (by unfold angS at h; rw [show ((0 : Nat) : Int) = 0 from rfl, h]; omega)
  rw [get_us T k hk] at h1
  injection h1 with h1
  rw [← hasb_cut, drop_us T k hk]
  unfold hasb
  rw [List.any_cons, h1, h2]; rfl

set_option maxRecDepth 100000 in
set_option maxHeartbeats 12800000 in
theorem parseAR_k (s : ByteArray) (hs : s.size ≤ 4294967280) (w : World) (hang : 0 ≤ angS (trim (us s))) (hok : (parseA (us s)).2 = 0) (hin : ∀ c, c = (cutb 62 ((trim (us s)).drop ((angS (trim (us s))).toNat + 1))).1 → (parseU c).2 = 0 ∧ (cutb 64 (cutb 58 c).2.1).2.2 = true ∧ (cutb 63 (cutb 64 (cutb 58 c).2.1).2.1).2.2 = false) :
    Calls Tryz.prog 69 #[.string s] w (AdrPost (parseA (us s)) w) := by
  have HTR := Lib.hid (fun wx => trimR_c s (by omega) wx)
  have htl := trim_le (us s)
  rw [length_us] at htl
  have hpa : parseA (us s) = parseA1 (trim (us s)) := rfl
  obtain ⟨T, hT⟩ : ∃ T, T = bs (trim (us s)) := ⟨_, rfl⟩
  have uT : trim (us s) = us T := by rw [hT, us_bs]
  have sT : T.size ≤ 4294967280 := by rw [hT, size_bs]; omega
  rw [← hT] at HTR
  rw [hpa, uT] at hok
  rw [hpa, uT]
  rw [uT] at hang hin
  clear hT uT hpa htl hs
  have HAN := Lib.hid (fun wx => openR_c T sT wx)
  have hal := angS_lt (us T)
  have hah := fun k hk h => ang_has T k hk h
  rw [length_us] at hal
  have hp1 : parseA1 (us T) = if 0 ≤ angS (us T) then parseN (displayS ((us T).take (angS (us T)).toNat)) (cutb 62 ((us T).drop ((angS (us T)).toNat + 1))) else parseB (us T) (trim (cutb 59 (us T)).1) := rfl
  obtain ⟨R, hR⟩ : ∃ R, R = parseA1 (us T) := ⟨_, rfl⟩
  rw [← hR] at hp1 hok ⊢
  clear hR
  obtain ⟨at_, hat⟩ : ∃ x, x = angS (us T) := ⟨_, rfl⟩
  rw [← hat] at HAN hal hp1 hah hang hin
  clear hat
  have HOK := Lib.hid hok
  clear hok
  have hZ : Below w.heap.size w (((w.alloc (.cells #[.string ⟨#[]⟩, .string ⟨#[]⟩, .string ⟨#[]⟩, .string ⟨#[]⟩, .int .i64 0, (.slice none 0 0), (.slice none 0 0), (.slice none 0 0)] 26)).alloc (.cells #[.string ⟨#[]⟩, .string ⟨#[]⟩, .string ⟨#[]⟩, .string ⟨#[]⟩, .int .i64 0, (.slice none 0 0), (.slice none 0 0), (.slice none 0 0)] 26)).alloc (.cells #[.string ⟨#[]⟩, .string ⟨#[]⟩, .string ⟨#[]⟩, .string ⟨#[]⟩, .int .i64 0, (.slice none 0 0), (.slice none 0 0), (.slice none 0 0)] 26)) := (((Below.refl _ _).alloc (Nat.le_refl _) _).alloc (by rw [World.size_alloc]; omega) _).alloc (by rw [World.size_alloc, World.size_alloc]; omega) _
  have bmR : Blk (((w.alloc (.cells #[.string ⟨#[]⟩, .string ⟨#[]⟩, .string ⟨#[]⟩, .string ⟨#[]⟩, .int .i64 0, (.slice none 0 0), (.slice none 0 0), (.slice none 0 0)] 26)).alloc (.cells #[.string ⟨#[]⟩, .string ⟨#[]⟩, .string ⟨#[]⟩, .string ⟨#[]⟩, .int .i64 0, (.slice none 0 0), (.slice none 0 0), (.slice none 0 0)] 26)).alloc (.cells #[.string ⟨#[]⟩, .string ⟨#[]⟩, .string ⟨#[]⟩, .string ⟨#[]⟩, .int .i64 0, (.slice none 0 0), (.slice none 0 0), (.slice none 0 0)] 26)) w.heap.size 26 #[.string ⟨#[]⟩, .string ⟨#[]⟩, .string ⟨#[]⟩, .string ⟨#[]⟩, .int .i64 0, (.slice none 0 0), (.slice none 0 0), (.slice none 0 0)] := ((Blk.new w 26 #[.string ⟨#[]⟩, .string ⟨#[]⟩, .string ⟨#[]⟩, .string ⟨#[]⟩, .int .i64 0, (.slice none 0 0), (.slice none 0 0), (.slice none 0 0)]).alloc _).alloc _
  have bmN : Blk (((w.alloc (.cells #[.string ⟨#[]⟩, .string ⟨#[]⟩, .string ⟨#[]⟩, .string ⟨#[]⟩, .int .i64 0, (.slice none 0 0), (.slice none 0 0), (.slice none 0 0)] 26)).alloc (.cells #[.string ⟨#[]⟩, .string ⟨#[]⟩, .string ⟨#[]⟩, .string ⟨#[]⟩, .int .i64 0, (.slice none 0 0), (.slice none 0 0), (.slice none 0 0)] 26)).alloc (.cells #[.string ⟨#[]⟩, .string ⟨#[]⟩, .string ⟨#[]⟩, .string ⟨#[]⟩, .int .i64 0, (.slice none 0 0), (.slice none 0 0), (.slice none 0 0)] 26)) (w.heap.size + 1) 26 #[.string ⟨#[]⟩, .string ⟨#[]⟩, .string ⟨#[]⟩, .string ⟨#[]⟩, .int .i64 0, (.slice none 0 0), (.slice none 0 0), (.slice none 0 0)] := by
    have := (Blk.new (w.alloc (.cells #[.string ⟨#[]⟩, .string ⟨#[]⟩, .string ⟨#[]⟩, .string ⟨#[]⟩, .int .i64 0, (.slice none 0 0), (.slice none 0 0), (.slice none 0 0)] 26)) 26 #[.string ⟨#[]⟩, .string ⟨#[]⟩, .string ⟨#[]⟩, .string ⟨#[]⟩, .int .i64 0, (.slice none 0 0), (.slice none 0 0), (.slice none 0 0)]).alloc (.cells #[.string ⟨#[]⟩, .string ⟨#[]⟩, .string ⟨#[]⟩, .string ⟨#[]⟩, .int .i64 0, (.slice none 0 0), (.slice none 0 0), (.slice none 0 0)] 26)
    rwa [World.size_alloc] at this
  have bmU : Blk (((w.alloc (.cells #[.string ⟨#[]⟩, .string ⟨#[]⟩, .string ⟨#[]⟩, .string ⟨#[]⟩, .int .i64 0, (.slice none 0 0), (.slice none 0 0), (.slice none 0 0)] 26)).alloc (.cells #[.string ⟨#[]⟩, .string ⟨#[]⟩, .string ⟨#[]⟩, .string ⟨#[]⟩, .int .i64 0, (.slice none 0 0), (.slice none 0 0), (.slice none 0 0)] 26)).alloc (.cells #[.string ⟨#[]⟩, .string ⟨#[]⟩, .string ⟨#[]⟩, .string ⟨#[]⟩, .int .i64 0, (.slice none 0 0), (.slice none 0 0), (.slice none 0 0)] 26)) (w.heap.size + 1 + 1) 26 #[.string ⟨#[]⟩, .string ⟨#[]⟩, .string ⟨#[]⟩, .string ⟨#[]⟩, .int .i64 0, (.slice none 0 0), (.slice none 0 0), (.slice none 0 0)] := by
    have := Blk.new ((w.alloc (.cells #[.string ⟨#[]⟩, .string ⟨#[]⟩, .string ⟨#[]⟩, .string ⟨#[]⟩, .int .i64 0, (.slice none 0 0), (.slice none 0 0), (.slice none 0 0)] 26)).alloc (.cells #[.string ⟨#[]⟩, .string ⟨#[]⟩, .string ⟨#[]⟩, .string ⟨#[]⟩, .int .i64 0, (.slice none 0 0), (.slice none 0 0), (.slice none 0 0)] 26)) 26 #[.string ⟨#[]⟩, .string ⟨#[]⟩, .string ⟨#[]⟩, .string ⟨#[]⟩, .int .i64 0, (.slice none 0 0), (.slice none 0 0), (.slice none 0 0)]
    rwa [World.size_alloc, World.size_alloc] at this
  obtain ⟨w0, hw0⟩ : ∃ w0, w0 = (((w.alloc (.cells #[.string ⟨#[]⟩, .string ⟨#[]⟩, .string ⟨#[]⟩, .string ⟨#[]⟩, .int .i64 0, (.slice none 0 0), (.slice none 0 0), (.slice none 0 0)] 26)).alloc (.cells #[.string ⟨#[]⟩, .string ⟨#[]⟩, .string ⟨#[]⟩, .string ⟨#[]⟩, .int .i64 0, (.slice none 0 0), (.slice none 0 0), (.slice none 0 0)] 26)).alloc (.cells #[.string ⟨#[]⟩, .string ⟨#[]⟩, .string ⟨#[]⟩, .string ⟨#[]⟩, .int .i64 0, (.slice none 0 0), (.slice none 0 0), (.slice none 0 0)] 26)) := ⟨_, rfl⟩
  rw [← hw0] at hZ bmR bmN bmU
  have HW0 := Lib.hid hw0
  clear hw0
  obtain ⟨r0, r1, r2, r3, r4, r5, r6, r7, g0, g1, g2, g3, g4, g5, g6, g7, zR⟩ := blk_h8 bmR
  obtain ⟨n0, n1, n2, n3, n4, n5, n6, n7, _, _, _, _, _, _, _, _, zN⟩ := blk_h8 bmN
  obtain ⟨m0, m1, m2, m3, m4, m5, m6, m7, f0, f1, f2, f3, f4, f5, f6, f7, zU⟩ := blk_h8 bmU
  by_cases h0 : 0 ≤ at_
  case neg => exact absurd hang h0
  case pos =>
    rw [if_pos h0] at hp1
    obtain ⟨k, rfl⟩ : ∃ k : Nat, at_ = (k : Int) := ⟨at_.toNat, by omega⟩
    have hk : k < T.size := by omega
    rw [show ((k : Int)).toNat = k by omega] at hp1 hin
    have hah := hah k hk rfl
    clear hal h0
    have HDS := Lib.hid (fun wx => dispR_c (T.extract 0 k) (by rw [size_extract _ _ _ (by omega)]; omega) wx)
    have hex : us (T.extract 0 k) = (us T).take k := by rw [us_extract]; rfl
    rw [hex] at HDS
    have HCT := Lib.hid (fun wx => cutR_c (T.extract (k + 1) T.size) (by rw [size_extract _ _ _ (Nat.le_refl _)]; omega) 62 wx)
    rw [show (((62 : UInt8).toNat : Nat) : Int) = 62 from rfl] at HCT
    have HHA := Lib.hid (fun wx => has3_c (T.extract k T.size) (by rw [size_extract _ _ _ (Nat.le_refl _)]; omega) 62 wx)
    rw [show (((62 : UInt8).toNat : Nat) : Int) = 62 from rfl] at HHA
    rw [us_tail] at HCT HHA
    rw [hah] at HHA
    have hcl := cutb_le 62 ((us T).drop (k + 1))
    rw [List.length_drop, length_us] at hcl
    have hpc := parseN_cases (displayS ((us T).take k)) (cutb 62 ((us T).drop (k + 1)))
    rw [← hp1] at hpc
    obtain ⟨q, hq⟩ : ∃ q, q = cutb 62 ((us T).drop (k + 1)) := ⟨_, rfl⟩
    obtain ⟨o, ho⟩ : ∃ q, q = optB (displayS ((us T).take k)) := ⟨_, rfl⟩
    rw [← hq] at HCT HHA hcl hpc hin
    rw [← ho] at HDS hpc
    clear hq ho hex hp1 hah
    obtain ⟨c1, c2, c3⟩ := q
    obtain ⟨dd, dok⟩ := o
    dsimp only at HCT HHA hcl hpc HDS hin
    obtain ⟨DD, hDD⟩ : ∃ x, x = bs dd := ⟨_, rfl⟩
    rw [← hDD] at HDS
    have HDV := Lib.hid (show sv dd = .string DD by rw [hDD]; rfl)
    have hdl : dd.length = DD.size := by rw [hDD, size_bs]
    rw [hdl] at hpc
    obtain ⟨WH, hWH⟩ : ∃ x, x = bs c1 := ⟨_, rfl⟩
    obtain ⟨BH, hBH⟩ : ∃ x, x = bs c2 := ⟨_, rfl⟩
    rw [← hWH, ← hBH] at HCT
    have HWHu := Lib.hid (show us WH = c1 by rw [hWH, us_bs])
    have HBHu := Lib.hid (show us BH = c2 by rw [hBH, us_bs])
    have hWHl : WH.size ≤ 4294967280 := by rw [hWH, size_bs]; omega
    have hBHl : BH.size ≤ 4294967280 := by rw [hBH, size_bs]; omega
    have k0 : (0 : Int) ≤ (k : Int) := by omega
    have k1 : (k : Int) ≤ (T.size : Int) := by omega
    have k2 : (k : Int) < (T.size : Int) := by omega
    have k3 : ((k : Int) + 1).toNat = k + 1 := by omega
    clear hDD hdl hWH hBH hcl
    rcases hpc with ⟨rfl, hR⟩ | ⟨rfl, h64, hR⟩ | ⟨rfl, h64, rfl, hR⟩ | ⟨rfl, h64, rfl, hR⟩
    iterate 3 (exfalso; have h := HOK.out; rw [hR] at h; revert h; decide)
    · have HPU := Lib.hid (fun wx => parseUR_k WH hWHl wx (by rw [HWHu.out]; exact (hin c1 rfl).1) (by rw [HWHu.out]; exact (hin c1 rfl).2.1) (by rw [HWHu.out]; exact (hin c1 rfl).2.2))
      clear hin
      have HPA := Lib.hid (fun wx => partsR_c BH (by have := hBHl; omega) 59 wx)
      have hpb := parts_bd 59 (us BH)
      have hpn := parts_ne 59 (us BH)
      have hsz : (us BH).length ≤ 4294967280 := by rw [length_us]; exact hBHl
      rw [HWHu.out] at HPU
      rw [HBHu.out] at HPA hpb hpn hsz
      unfold parseA2 at hR
      obtain ⟨h, tl, hpt⟩ : ∃ h tl, parts c2 59 = h :: tl := ⟨_, _, (List.cons_head_tail hpn).symm⟩
      rw [hpt] at HPA hpb hR
      have hR := hR.trans (show _ = endA dd (parseU c1) h (fieldsS tl) from rfl)
      have hcs := endA_cases dd (parseU c1) h (fieldsS tl)
      rw [← hR] at hcs
      have hhl := hpb h (List.mem_cons_self ..)
      have HTH := Lib.hid (fun wx => trimR_c (bs h) (by rw [size_bs]; omega) wx)
      rw [us_bs] at HTH
      rw [show (((59 : UInt8).toNat : Nat) : Int) = 59 from rfl] at HPA
      have HFI := Lib.hid (fun wx v hv => fieldsR_c v tl wx hv (fun p hp => Nat.le_trans (hpb p (List.mem_cons_of_mem _ hp)) hsz))
      obtain ⟨TH, hTH⟩ : ∃ x, x = bs (trim h) := ⟨_, rfl⟩
      have hth : trim h = [] ↔ TH.size = 0 := by rw [hTH, size_bs, List.length_eq_zero_iff]
      rw [← hTH] at HTH
      simp only [ne_eq, hth] at hcs
      obtain ⟨PU, hPU⟩ : ∃ x, x = parseU c1 := ⟨_, rfl⟩
      obtain ⟨FI, hFI⟩ : ∃ x, x = fieldsS tl := ⟨_, rfl⟩
      rw [← hPU] at HPU hcs
      rw [← hFI] at HFI hcs
      unfold UriPost at HPU
      clear hPU hFI hTH hth hhl hpb hpn hsz hpt hR
      obtain ⟨pu, pe⟩ := PU
      obtain ⟨fi, fe⟩ := FI
      dsimp only at HPU hcs HFI
      obtain ⟨US, hUS⟩ : ∃ x, x = bs pu.scheme := ⟨_, rfl⟩
      obtain ⟨UU, hUU⟩ : ∃ x, x = bs pu.user := ⟨_, rfl⟩
      obtain ⟨UH, hUH⟩ : ∃ x, x = bs pu.host := ⟨_, rfl⟩
      unfold sv at HPU
      rw [← hUS, ← hUU, ← hUH] at HPU
      have HSV := Lib.hid (show sv pu.scheme = .string US by rw [hUS]; rfl)
      have HUV := Lib.hid (show sv pu.user = .string UU by rw [hUU]; rfl)
      have HHV := Lib.hid (show sv pu.host = .string UH by rw [hUH]; rfl)
      obtain ⟨up, hup⟩ : ∃ x, x = pu.port := ⟨_, rfl⟩
      rw [← hup] at HPU
      have HPV := Lib.hid hup.symm
      clear hUS hUU hUH hup
      go_enter Tryz.func69, Tryz.ntmps69
      go_upto_region 11 with (first | (go_at_call 130; ((with_reducible refine (HTR.out _).mono ?_); rintro e wt ⟨rfl, rfl⟩)) | (go_at_call 131; (try rw [← HW0.out]); refine (HAN.out _).mono ?_; rintro e wt ⟨rfl, rfl⟩) | (go_at_call 132; ((with_reducible refine (HDS.out _).mono ?_); rintro e w1 ⟨rfl, hC1⟩); replace hZ := hZ.trans (hC1.mono hZ.size); replace bmR := bmR.call hC1; replace bmN := bmN.call hC1; replace bmU := bmU.call hC1; clear r0 r1 r2 r3 r4 r5 r6 r7 g0 g1 g2 g3 g4 g5 g6 g7 zR n0 n1 n2 n3 n4 n5 n6 n7 zN m0 m1 m2 m3 m4 m5 m6 m7 f0 f1 f2 f3 f4 f5 f6 f7 zU; obtain ⟨r0, r1, r2, r3, r4, r5, r6, r7, g0, g1, g2, g3, g4, g5, g6, g7, zR⟩ := blk_h8 bmR; obtain ⟨n0, n1, n2, n3, n4, n5, n6, n7, _, _, _, _, _, _, _, _, zN⟩ := blk_h8 bmN; obtain ⟨m0, m1, m2, m3, m4, m5, m6, m7, f0, f1, f2, f3, f4, f5, f6, f7, zU⟩ := blk_h8 bmU) | (go_at_call 125; first | ((with_reducible refine (HHA.out _).mono ?_); rintro e wx ⟨rfl, rfl⟩)))
      have hZ := hZ.setCell (p := ⟨w.heap.size + 1 + 1, 0, none⟩) (show w.heap.size ≤ w.heap.size + 1 + 1 by omega) (.string DD)
      have bmR := bmR.far (p := ⟨w.heap.size + 1 + 1, 0, none⟩) (show w.heap.size ≠ w.heap.size + 1 + 1 by omega) (.string DD)
      have bmN := bmN.far (p := ⟨w.heap.size + 1 + 1, 0, none⟩) (show w.heap.size + 1 ≠ w.heap.size + 1 + 1 by omega) (.string DD)
      have bmU : Blk _ (w.heap.size + 1 + 1) 26 #[.string DD, .string ⟨#[]⟩, .string ⟨#[]⟩, .string ⟨#[]⟩, .int .i64 0, (.slice none 0 0), (.slice none 0 0), (.slice none 0 0)] := bmU.set_ 0 (.string DD)
      obtain ⟨w5, e5⟩ : ∃ x, x = w1.setCell ⟨w.heap.size + 1 + 1, 0, none⟩ (.string DD) := ⟨_, rfl⟩
      rw [← e5] at hZ bmR bmN bmU
      simp only [← e5]
      clear e5 r0 r1 r2 r3 r4 r5 r6 r7 g0 g1 g2 g3 g4 g5 g6 g7 zR n0 n1 n2 n3 n4 n5 n6 n7 zN m0 m1 m2 m3 m4 m5 m6 m7 f0 f1 f2 f3 f4 f5 f6 f7 zU
      obtain ⟨r0, r1, r2, r3, r4, r5, r6, r7, g0, g1, g2, g3, g4, g5, g6, g7, zR⟩ := blk_h8 bmR
      obtain ⟨n0, n1, n2, n3, n4, n5, n6, n7, _, _, _, _, _, _, _, _, zN⟩ := blk_h8 bmN
      obtain ⟨m0, m1, m2, m3, m4, m5, m6, m7, f0, f1, f2, f3, f4, f5, f6, f7, zU⟩ := blk_h8 bmU
      go_upto_region 18 with (go_at_call 122; ((with_reducible refine (HCT.out _).mono ?_); rintro e w6 ⟨rfl, hD⟩); replace hZ := hZ.trans (hD.below (B := w.heap.size)); replace bmR := bmR.call (hD.below); replace bmN := bmN.call (hD.below); replace bmU := bmU.call (hD.below); clear r0 r1 r2 r3 r4 r5 r6 r7 g0 g1 g2 g3 g4 g5 g6 g7 zR n0 n1 n2 n3 n4 n5 n6 n7 zN m0 m1 m2 m3 m4 m5 m6 m7 f0 f1 f2 f3 f4 f5 f6 f7 zU; obtain ⟨r0, r1, r2, r3, r4, r5, r6, r7, g0, g1, g2, g3, g4, g5, g6, g7, zR⟩ := blk_h8 bmR; obtain ⟨n0, n1, n2, n3, n4, n5, n6, n7, _, _, _, _, _, _, _, _, zN⟩ := blk_h8 bmN; obtain ⟨m0, m1, m2, m3, m4, m5, m6, m7, f0, f1, f2, f3, f4, f5, f6, f7, zU⟩ := blk_h8 bmU)
      rcases hcs with ⟨hw, hR⟩ | ⟨rfl, hw, hR⟩ | ⟨rfl, hw, hf, hR⟩ | ⟨rfl, hw, rfl, hR⟩
      · exact absurd (by have h := HOK.out; rw [hR] at h; exact h) hw
      · exfalso; have h := HOK.out; rw [hR] at h; revert h; decide
      · exact absurd (by have h := HOK.out; rw [hR] at h; exact h) hf
      · have HR := Lib.hid hR
        obtain rfl := eq_empty hw
        clear hR hw
        go_wp2_with (first | (go_at_call 68; ((with_reducible refine (HPU.out _).mono ?_); rintro e w9 ⟨u1, u2, rfl, hu1, hu2, hF1, hF2, hC9⟩); have hF1 := hF1.mono (show w.heap.size + 3 ≤ _ from bmU.lt); have hF2 := hF2.mono (show w.heap.size + 3 ≤ _ from bmU.lt); replace hZ := hZ.trans (hC9.mono hZ.size); replace bmR := bmR.call hC9; replace bmN := bmN.call hC9; replace bmU := bmU.call hC9; clear r0 r1 r2 r3 r4 r5 r6 r7 g0 g1 g2 g3 g4 g5 g6 g7 zR n0 n1 n2 n3 n4 n5 n6 n7 zN m0 m1 m2 m3 m4 m5 m6 m7 f0 f1 f2 f3 f4 f5 f6 f7 zU; obtain ⟨r0, r1, r2, r3, r4, r5, r6, r7, g0, g1, g2, g3, g4, g5, g6, g7, zR⟩ := blk_h8 bmR; obtain ⟨n0, n1, n2, n3, n4, n5, n6, n7, _, _, _, _, _, _, _, _, zN⟩ := blk_h8 bmN; obtain ⟨m0, m1, m2, m3, m4, m5, m6, m7, f0, f1, f2, f3, f4, f5, f6, f7, zU⟩ := blk_h8 bmU; obtain ⟨ao1, cp1, rfl, _, _⟩ := hu1.form; obtain ⟨ao2, cp2, rfl, _, _⟩ := hu2.form; have bx := Blk.new w9 24 #[.string US, .string UU, .string UH, .int .i64 up, .slice ao1 pu.ps.length cp1, .slice ao2 pu.hs.length cp2]; have HZ9 := Lib.hid hZ; have HUP1 := Lib.hid (hu1.below ((Below.refl _ _).alloc (Nat.le_refl _) (.cells #[.string US, .string UU, .string UH, .int .i64 up, .slice ao1 pu.ps.length cp1, .slice ao2 pu.hs.length cp2] 24)) (Nat.le_refl _)); have HUP2 := Lib.hid (hu2.below ((Below.refl _ _).alloc (Nat.le_refl _) (.cells #[.string US, .string UU, .string UH, .int .i64 up, .slice ao1 pu.ps.length cp1, .slice ao2 pu.hs.length cp2] 24)) (Nat.le_refl _)); have HF1 := Lib.hid hF1; have HF2 := Lib.hid hF2; replace hZ := hZ.alloc hZ.size (.cells #[.string US, .string UU, .string UH, .int .i64 up, .slice ao1 pu.ps.length cp1, .slice ao2 pu.hs.length cp2] 24); replace bmR := bmR.alloc (.cells #[.string US, .string UU, .string UH, .int .i64 up, .slice ao1 pu.ps.length cp1, .slice ao2 pu.hs.length cp2] 24); replace bmN := bmN.alloc (.cells #[.string US, .string UU, .string UH, .int .i64 up, .slice ao1 pu.ps.length cp1, .slice ao2 pu.hs.length cp2] 24); replace bmU := bmU.alloc (.cells #[.string US, .string UU, .string UH, .int .i64 up, .slice ao1 pu.ps.length cp1, .slice ao2 pu.hs.length cp2] 24); clear hu1 hu2 hF1 hF2; obtain ⟨q0, q1, q2, q3, q4, q5⟩ := blk_f6 bx) | (go_at_call 133; ((with_reducible refine (HPA.out _).mono ?_); rintro e w10 ⟨v, rfl, hv, hC10⟩); replace HUP1 := Lib.hid (HUP1.out.below hC10 (Nat.le_refl _)); replace HUP2 := Lib.hid (HUP2.out.below hC10 (Nat.le_refl _)); replace bx := bx.call hC10; clear q0 q1 q2 q3 q4 q5; obtain ⟨q0, q1, q2, q3, q4, q5⟩ := blk_f6 bx; replace hZ := hZ.trans (hC10.mono hZ.size); replace bmR := bmR.call hC10; replace bmN := bmN.call hC10; replace bmU := bmU.call hC10; clear r0 r1 r2 r3 r4 r5 r6 r7 g0 g1 g2 g3 g4 g5 g6 g7 zR n0 n1 n2 n3 n4 n5 n6 n7 zN m0 m1 m2 m3 m4 m5 m6 m7 f0 f1 f2 f3 f4 f5 f6 f7 zU; obtain ⟨r0, r1, r2, r3, r4, r5, r6, r7, g0, g1, g2, g3, g4, g5, g6, g7, zR⟩ := blk_h8 bmR; obtain ⟨n0, n1, n2, n3, n4, n5, n6, n7, _, _, _, _, _, _, _, _, zN⟩ := blk_h8 bmN; obtain ⟨m0, m1, m2, m3, m4, m5, m6, m7, f0, f1, f2, f3, f4, f5, f6, f7, zU⟩ := blk_h8 bmU; have HV := Lib.hid hv; obtain ⟨ao, cap, rfl, hm1, c1⟩ := hv.form; obtain ⟨b, off, rfl, hb1, hc1⟩ := c1 (by simp); have x0 := hc1 0 (by simp); rw [Nat.add_zero] at x0; have j1 : (0 : Int) < ((h :: tl).length : Int) := (by simp); clear hc1 c1 hv; unfold maxLen at hm1) | (go_at_call 130; ((with_reducible refine (HTH.out _).mono ?_); rintro e wt ⟨rfl, rfl⟩)) | (go_at_call 134; ((with_reducible refine (HFI.out _ _ (by first | exact HV.out.tailB | exact HV.out.tailA (by first | assumption | omega))).mono ?_); rintro e w11 ⟨u3, rfl, hu3, hF3, hC11⟩); have hF3 := hF3.mono (show w.heap.size + 3 ≤ _ from bmU.lt); replace HUP1 := Lib.hid (HUP1.out.below hC11 (Nat.le_refl _)); replace HUP2 := Lib.hid (HUP2.out.below hC11 (Nat.le_refl _)); replace bx := bx.call hC11; clear q0 q1 q2 q3 q4 q5; obtain ⟨q0, q1, q2, q3, q4, q5⟩ := blk_f6 bx; replace hZ := hZ.trans (hC11.mono hZ.size); replace bmR := bmR.call hC11; replace bmN := bmN.call hC11; replace bmU := bmU.call hC11; clear r0 r1 r2 r3 r4 r5 r6 r7 g0 g1 g2 g3 g4 g5 g6 g7 zR n0 n1 n2 n3 n4 n5 n6 n7 zN m0 m1 m2 m3 m4 m5 m6 m7 f0 f1 f2 f3 f4 f5 f6 f7 zU; obtain ⟨r0, r1, r2, r3, r4, r5, r6, r7, g0, g1, g2, g3, g4, g5, g6, g7, zR⟩ := blk_h8 bmR; obtain ⟨n0, n1, n2, n3, n4, n5, n6, n7, _, _, _, _, _, _, _, _, zN⟩ := blk_h8 bmN; obtain ⟨m0, m1, m2, m3, m4, m5, m6, m7, f0, f1, f2, f3, f4, f5, f6, f7, zU⟩ := blk_h8 bmU; obtain ⟨ao3, cp3, rfl, _, _⟩ := hu3.form; have HU3 := Lib.hid hu3; have HF3 := Lib.hid hF3; clear hu3 hF3))
        all_goals
          refine bodyPost_ret (v := .tuple #[.agg #[.string DD, .string US, .string UU, .string UH, .int .i64 up, .slice ao1 pu.ps.length cp1, .slice ao2 pu.hs.length cp2, .slice ao3 fi.length cp3], .int .i64 0]) (by simp [results, Tryz.results69, go_sem, r0, r1, r2, r3, r4, r5, r6, r7]) rfl ?_
          exact ⟨_, _, _, by (rw [HR.out]; show _ = Ending.returned (.tuple #[.agg #[sv dd, sv pu.scheme, sv pu.user, sv pu.host, .int .i64 pu.port, _, _, _], .int .i64 0]); rw [HSV.out, HUV.out, HHV.out, HPV.out, HDV.out]), (by rw [HR.out]; exact (RPrms.set (RPrms.set (RPrms.set (RPrms.set (RPrms.set (RPrms.set (RPrms.set (RPrms.set (RPrms.set (RPrms.set (RPrms.set (RPrms.set (RPrms.set (RPrms.set (RPrms.set HUP1.out HF1.out (p := ⟨w.heap.size + 1 + 1, 1, none⟩) (show w.heap.size + 1 + 1 < w.heap.size + 3 by omega) _) HF1.out (p := ⟨w.heap.size + 1 + 1, 2, none⟩) (show w.heap.size + 1 + 1 < w.heap.size + 3 by omega) _) HF1.out (p := ⟨w.heap.size + 1 + 1, 3, none⟩) (show w.heap.size + 1 + 1 < w.heap.size + 3 by omega) _) HF1.out (p := ⟨w.heap.size + 1 + 1, 4, none⟩) (show w.heap.size + 1 + 1 < w.heap.size + 3 by omega) _) HF1.out (p := ⟨w.heap.size + 1 + 1, 5, none⟩) (show w.heap.size + 1 + 1 < w.heap.size + 3 by omega) _) HF1.out (p := ⟨w.heap.size + 1 + 1, 6, none⟩) (show w.heap.size + 1 + 1 < w.heap.size + 3 by omega) _) HF1.out (p := ⟨w.heap.size + 1 + 1, 7, none⟩) (show w.heap.size + 1 + 1 < w.heap.size + 3 by omega) _) HF1.out (p := ⟨w.heap.size, 0, none⟩) (show w.heap.size < w.heap.size + 3 by omega) _) HF1.out (p := ⟨w.heap.size, 1, none⟩) (show w.heap.size < w.heap.size + 3 by omega) _) HF1.out (p := ⟨w.heap.size, 2, none⟩) (show w.heap.size < w.heap.size + 3 by omega) _) HF1.out (p := ⟨w.heap.size, 3, none⟩) (show w.heap.size < w.heap.size + 3 by omega) _) HF1.out (p := ⟨w.heap.size, 4, none⟩) (show w.heap.size < w.heap.size + 3 by omega) _) HF1.out (p := ⟨w.heap.size, 5, none⟩) (show w.heap.size < w.heap.size + 3 by omega) _) HF1.out (p := ⟨w.heap.size, 6, none⟩) (show w.heap.size < w.heap.size + 3 by omega) _) HF1.out (p := ⟨w.heap.size, 7, none⟩) (show w.heap.size < w.heap.size + 3 by omega) _)), (by rw [HR.out]; exact (RPrms.set (RPrms.set (RPrms.set (RPrms.set (RPrms.set (RPrms.set (RPrms.set (RPrms.set (RPrms.set (RPrms.set (RPrms.set (RPrms.set (RPrms.set (RPrms.set (RPrms.set HUP2.out HF2.out (p := ⟨w.heap.size + 1 + 1, 1, none⟩) (show w.heap.size + 1 + 1 < w.heap.size + 3 by omega) _) HF2.out (p := ⟨w.heap.size + 1 + 1, 2, none⟩) (show w.heap.size + 1 + 1 < w.heap.size + 3 by omega) _) HF2.out (p := ⟨w.heap.size + 1 + 1, 3, none⟩) (show w.heap.size + 1 + 1 < w.heap.size + 3 by omega) _) HF2.out (p := ⟨w.heap.size + 1 + 1, 4, none⟩) (show w.heap.size + 1 + 1 < w.heap.size + 3 by omega) _) HF2.out (p := ⟨w.heap.size + 1 + 1, 5, none⟩) (show w.heap.size + 1 + 1 < w.heap.size + 3 by omega) _) HF2.out (p := ⟨w.heap.size + 1 + 1, 6, none⟩) (show w.heap.size + 1 + 1 < w.heap.size + 3 by omega) _) HF2.out (p := ⟨w.heap.size + 1 + 1, 7, none⟩) (show w.heap.size + 1 + 1 < w.heap.size + 3 by omega) _) HF2.out (p := ⟨w.heap.size, 0, none⟩) (show w.heap.size < w.heap.size + 3 by omega) _) HF2.out (p := ⟨w.heap.size, 1, none⟩) (show w.heap.size < w.heap.size + 3 by omega) _) HF2.out (p := ⟨w.heap.size, 2, none⟩) (show w.heap.size < w.heap.size + 3 by omega) _) HF2.out (p := ⟨w.heap.size, 3, none⟩) (show w.heap.size < w.heap.size + 3 by omega) _) HF2.out (p := ⟨w.heap.size, 4, none⟩) (show w.heap.size < w.heap.size + 3 by omega) _) HF2.out (p := ⟨w.heap.size, 5, none⟩) (show w.heap.size < w.heap.size + 3 by omega) _) HF2.out (p := ⟨w.heap.size, 6, none⟩) (show w.heap.size < w.heap.size + 3 by omega) _) HF2.out (p := ⟨w.heap.size, 7, none⟩) (show w.heap.size < w.heap.size + 3 by omega) _)), (by rw [HR.out]; exact (RPrms.set (RPrms.set (RPrms.set (RPrms.set (RPrms.set (RPrms.set (RPrms.set (RPrms.set (RPrms.set (RPrms.set (RPrms.set (RPrms.set (RPrms.set (RPrms.set (RPrms.set HU3.out HF3.out (p := ⟨w.heap.size + 1 + 1, 1, none⟩) (show w.heap.size + 1 + 1 < w.heap.size + 3 by omega) _) HF3.out (p := ⟨w.heap.size + 1 + 1, 2, none⟩) (show w.heap.size + 1 + 1 < w.heap.size + 3 by omega) _) HF3.out (p := ⟨w.heap.size + 1 + 1, 3, none⟩) (show w.heap.size + 1 + 1 < w.heap.size + 3 by omega) _) HF3.out (p := ⟨w.heap.size + 1 + 1, 4, none⟩) (show w.heap.size + 1 + 1 < w.heap.size + 3 by omega) _) HF3.out (p := ⟨w.heap.size + 1 + 1, 5, none⟩) (show w.heap.size + 1 + 1 < w.heap.size + 3 by omega) _) HF3.out (p := ⟨w.heap.size + 1 + 1, 6, none⟩) (show w.heap.size + 1 + 1 < w.heap.size + 3 by omega) _) HF3.out (p := ⟨w.heap.size + 1 + 1, 7, none⟩) (show w.heap.size + 1 + 1 < w.heap.size + 3 by omega) _) HF3.out (p := ⟨w.heap.size, 0, none⟩) (show w.heap.size < w.heap.size + 3 by omega) _) HF3.out (p := ⟨w.heap.size, 1, none⟩) (show w.heap.size < w.heap.size + 3 by omega) _) HF3.out (p := ⟨w.heap.size, 2, none⟩) (show w.heap.size < w.heap.size + 3 by omega) _) HF3.out (p := ⟨w.heap.size, 3, none⟩) (show w.heap.size < w.heap.size + 3 by omega) _) HF3.out (p := ⟨w.heap.size, 4, none⟩) (show w.heap.size < w.heap.size + 3 by omega) _) HF3.out (p := ⟨w.heap.size, 5, none⟩) (show w.heap.size < w.heap.size + 3 by omega) _) HF3.out (p := ⟨w.heap.size, 6, none⟩) (show w.heap.size < w.heap.size + 3 by omega) _) HF3.out (p := ⟨w.heap.size, 7, none⟩) (show w.heap.size < w.heap.size + 3 by omega) _)), HF1.out.mono (by omega), HF2.out.mono (by omega), HF3.out.mono (by omega), (((((((((((((((hZ.setCell (show w.heap.size ≤ w.heap.size + 1 + 1 by omega) _).setCell (show w.heap.size ≤ w.heap.size + 1 + 1 by omega) _).setCell (show w.heap.size ≤ w.heap.size + 1 + 1 by omega) _).setCell (show w.heap.size ≤ w.heap.size + 1 + 1 by omega) _).setCell (show w.heap.size ≤ w.heap.size + 1 + 1 by omega) _).setCell (show w.heap.size ≤ w.heap.size + 1 + 1 by omega) _).setCell (show w.heap.size ≤ w.heap.size + 1 + 1 by omega) _).setCell (Nat.le_refl _) _).setCell (Nat.le_refl _) _).setCell (Nat.le_refl _) _).setCell (Nat.le_refl _) _).setCell (Nat.le_refl _) _).setCell (Nat.le_refl _) _).setCell (Nat.le_refl _) _).setCell (Nat.le_refl _) _)⟩

end Go.Proofs.YtipdiddjhimdcaaGreatDoor

namespace Go.Proofs.YtipdiddjhimdcaaGreatDoor
set_option linter.unusedSimpArgs false
set_option linter.unusedVariables false
open Go.RowKit

set_option maxHeartbeats 3200000 in
theorem tagA_c (D S U H : ByteArray) (n : Int) (u1 u2 u3 : Value) (F G P : List Prm) (w : World) (h3 : RPrms w u3 P) (hb : ∀ p ∈ P, p.name.length ≤ 4294967280) (f1 : ∃ ao c, u1 = .slice ao F.length c) (f2 : ∃ ao c, u2 = .slice ao G.length c) :
    Calls Tryz.prog 19 #[.agg #[.string D, .string S, .string U, .string H, .int .i64 n, u1, u2, u3]] w fun e w' => e = .returned (.string (bs (value P nTag).1)) ∧ Below w.heap.size w w' := by
  have HU := Lib.hid h3
  obtain ⟨ao, ac, rfl⟩ := f1
  obtain ⟨bo, bc, rfl⟩ := f2
  obtain ⟨co, cc, rfl, _, _⟩ := h3.form
  clear h3
  have HV := Lib.hid (fun wx hv => value_c (.slice co P.length cc) P ⟨#[116, 97, 103]⟩ (by decide) wx hv (fun p hp => by have := hb p hp; omega))
  rw [show us ⟨#[116, 97, 103]⟩ = nTag from rfl] at HV
  obtain ⟨q, hq⟩ : ∃ q, q = value P nTag := ⟨_, rfl⟩
  rw [← hq] at HV ⊢
  clear hq hb
  have hZ := (Below.refl w.heap.size w).alloc (Nat.le_refl _) (.cells #[.string D, .string S, .string U, .string H, .int .i64 n, .slice ao F.length ac, .slice bo G.length bc, .slice co P.length cc] 26)
  go_enter Tryz.func19, Tryz.ntmps19
  go_wp2_with (go_at_call 63; refine (HV.out _ (HU.out.below hZ (Nat.le_refl _))).mono ?_; rintro e w1 ⟨rfl, hC1⟩; have hZ := hZ.trans (hC1.mono hZ.size))
  go_ret
  exact ⟨rfl, hZ⟩

set_option maxRecDepth 100000 in
set_option maxHeartbeats 6400000 in
theorem same3_yes (S U H : ByteArray) (n : Int) (u1 u2 v1 v2 : Value) (F G : List Prm) (w : World) (h1 : RPrms w u1 F) (h2 : RPrms w u2 G) (h3 : RPrms w v1 F) (h4 : RPrms w v2 G) :
    Calls Tryz.prog 43 #[.agg #[.string S, .string U, .string H, .int .i64 n, u1, u2], .agg #[.string S, .string U, .string H, .int .i64 n, v1, v2]] w fun e w' => e = .returned (.bool true) ∧ Below w.heap.size w w' := by
  have H1 := Lib.hid h1
  have H2 := Lib.hid h2
  have H3 := Lib.hid h3
  have H4 := Lib.hid h4
  obtain ⟨ao, ac, rfl, _, _⟩ := h1.form
  obtain ⟨bo, bc, rfl, _, _⟩ := h2.form
  obtain ⟨co, cc, rfl, _, _⟩ := h3.form
  obtain ⟨do_, dc, rfl, _, _⟩ := h4.form
  clear h1 h2 h3 h4
  have HL1 := Lib.hid (fun wx hx hy => lists_c (.slice ao F.length ac) (.slice co F.length cc) F F wx hx hy)
  have HL2 := Lib.hid (fun wx hx hy => lists_c (.slice bo G.length bc) (.slice do_ G.length dc) G G wx hx hy)
  rw [show (F == F) = true by simp] at HL1
  rw [show (G == G) = true by simp] at HL2
  have hB0 : Below w.heap.size w ((w.alloc (.cells #[.string S, .string U, .string H, .int .i64 n, .slice ao F.length ac, .slice bo G.length bc] 24)).alloc (.cells #[.string S, .string U, .string H, .int .i64 n, .slice co F.length cc, .slice do_ G.length dc] 24)) := ((Below.refl _ _).alloc (Nat.le_refl _) _).alloc (by rw [World.size_alloc]; omega) _
  have bm0 := (Blk.new w 24 #[.string S, .string U, .string H, .int .i64 n, .slice ao F.length ac, .slice bo G.length bc]).call ((Below.refl (w.alloc (.cells #[.string S, .string U, .string H, .int .i64 n, .slice ao F.length ac, .slice bo G.length bc] 24)).heap.size (w.alloc (.cells #[.string S, .string U, .string H, .int .i64 n, .slice ao F.length ac, .slice bo G.length bc] 24))).alloc (Nat.le_refl _) (.cells #[.string S, .string U, .string H, .int .i64 n, .slice co F.length cc, .slice do_ G.length dc] 24))
  have bn0 := Blk.new (w.alloc (.cells #[.string S, .string U, .string H, .int .i64 n, .slice ao F.length ac, .slice bo G.length bc] 24)) 24 #[.string S, .string U, .string H, .int .i64 n, .slice co F.length cc, .slice do_ G.length dc]
  rw [World.size_alloc] at bn0
  obtain ⟨w0, hw0⟩ : ∃ w0, w0 = (w.alloc (.cells #[.string S, .string U, .string H, .int .i64 n, .slice ao F.length ac, .slice bo G.length bc] 24)).alloc (.cells #[.string S, .string U, .string H, .int .i64 n, .slice co F.length cc, .slice do_ G.length dc] 24) := ⟨_, rfl⟩
  rw [← hw0] at hB0 bm0 bn0
  have HX := Lib.hid (fun (wx : World) (h : Below w0.heap.size w0 wx) => (show Blk wx w.heap.size 24 #[.string S, .string U, .string H, .int .i64 n, .slice ao F.length ac, .slice bo G.length bc] ∧ Blk wx (w.heap.size + 1) 24 #[.string S, .string U, .string H, .int .i64 n, .slice co F.length cc, .slice do_ G.length dc] ∧ Below w.heap.size w wx ∧ RPrms wx (.slice ao F.length ac) F ∧ RPrms wx (.slice bo G.length bc) G ∧ RPrms wx (.slice co F.length cc) F ∧ RPrms wx (.slice do_ G.length dc) G from by
    have hx := hB0.trans (h.mono hB0.size)
    exact ⟨bm0.call h, bn0.call h, hx, H1.out.below hx (Nat.le_refl _), H2.out.below hx (Nat.le_refl _), H3.out.below hx (Nat.le_refl _), H4.out.below hx (Nat.le_refl _)⟩))
  have HW0 := Lib.hid hw0
  have hZ : Below w0.heap.size w0 w0 := Below.refl _ _
  obtain ⟨bm, bn, hBB, k0, k1, k2, k3⟩ := HX.out _ hZ
  clear hw0 bm0 bn0 hB0
  obtain ⟨p0, p1, p2, p3, p4, p5⟩ := blk_f6 bm
  obtain ⟨q0, q1, q2, q3, q4, q5⟩ := blk_f6 bn
  go_enter Tryz.func43, Tryz.ntmps43
  go_wp2_with (go_at_call 64; (try rw [← HW0.out]); (first | ((with_reducible refine (HL1.out _ k0 k2).mono ?_); rintro e w1 ⟨rfl, hC⟩) | ((with_reducible refine (HL2.out _ k1 k3).mono ?_); rintro e w1 ⟨rfl, hC⟩)); replace hZ := hZ.trans (hC.below (B := w0.heap.size)); clear k0 k1 k2 k3 bm bn hBB p0 p1 p2 p3 p4 p5 q0 q1 q2 q3 q4 q5; obtain ⟨bm, bn, hBB, k0, k1, k2, k3⟩ := HX.out _ hZ; obtain ⟨p0, p1, p2, p3, p4, p5⟩ := blk_f6 bm; obtain ⟨q0, q1, q2, q3, q4, q5⟩ := blk_f6 bn)
  go_ret
  exact ⟨rfl, hBB⟩

set_option maxRecDepth 100000 in
set_option maxHeartbeats 6400000 in
theorem same5_yes (D S U H : ByteArray) (n : Int) (u1 u2 u3 v1 v2 v3 : Value) (F G P : List Prm) (w : World) (h1 : RPrms w u1 F) (h2 : RPrms w u2 G) (h3 : RPrms w u3 P) (h4 : RPrms w v1 F) (h5 : RPrms w v2 G) (h6 : RPrms w v3 P) :
    Calls Tryz.prog 20 #[.agg #[.string D, .string S, .string U, .string H, .int .i64 n, u1, u2, u3], .agg #[.string D, .string S, .string U, .string H, .int .i64 n, v1, v2, v3]] w fun e w' => e = .returned (.bool true) ∧ Below w.heap.size w w' := by
  have H1 := Lib.hid h1
  have H2 := Lib.hid h2
  have H3 := Lib.hid h3
  have H4 := Lib.hid h4
  have H5 := Lib.hid h5
  have H6 := Lib.hid h6
  obtain ⟨ao, ac, rfl, _, _⟩ := h1.form
  obtain ⟨bo, bc, rfl, _, _⟩ := h2.form
  obtain ⟨co, cc, rfl, _, _⟩ := h3.form
  obtain ⟨xo, xc, rfl, _, _⟩ := h4.form
  obtain ⟨yo, yc, rfl, _, _⟩ := h5.form
  obtain ⟨zo, zc, rfl, _, _⟩ := h6.form
  clear h1 h2 h3 h4 h5 h6
  have HS := Lib.hid (fun wx h1 h2 h3 h4 => same3_yes S U H n (.slice ao F.length ac) (.slice bo G.length bc) (.slice xo F.length xc) (.slice yo G.length yc) F G wx h1 h2 h3 h4)
  have HL := Lib.hid (fun wx hx hy => lists_c (.slice co P.length cc) (.slice zo P.length zc) P P wx hx hy)
  rw [show (P == P) = true by simp] at HL
  have hB0 : Below w.heap.size w ((w.alloc (.cells #[.string D, .string S, .string U, .string H, .int .i64 n, .slice ao F.length ac, .slice bo G.length bc, .slice co P.length cc] 26)).alloc (.cells #[.string D, .string S, .string U, .string H, .int .i64 n, .slice xo F.length xc, .slice yo G.length yc, .slice zo P.length zc] 26)) := ((Below.refl _ _).alloc (Nat.le_refl _) _).alloc (by rw [World.size_alloc]; omega) _
  have bm0 := (Blk.new w 26 #[.string D, .string S, .string U, .string H, .int .i64 n, .slice ao F.length ac, .slice bo G.length bc, .slice co P.length cc]).call ((Below.refl (w.alloc (.cells #[.string D, .string S, .string U, .string H, .int .i64 n, .slice ao F.length ac, .slice bo G.length bc, .slice co P.length cc] 26)).heap.size (w.alloc (.cells #[.string D, .string S, .string U, .string H, .int .i64 n, .slice ao F.length ac, .slice bo G.length bc, .slice co P.length cc] 26))).alloc (Nat.le_refl _) (.cells #[.string D, .string S, .string U, .string H, .int .i64 n, .slice xo F.length xc, .slice yo G.length yc, .slice zo P.length zc] 26))
  have bn0 := Blk.new (w.alloc (.cells #[.string D, .string S, .string U, .string H, .int .i64 n, .slice ao F.length ac, .slice bo G.length bc, .slice co P.length cc] 26)) 26 #[.string D, .string S, .string U, .string H, .int .i64 n, .slice xo F.length xc, .slice yo G.length yc, .slice zo P.length zc]
  rw [World.size_alloc] at bn0
  obtain ⟨w0, hw0⟩ : ∃ w0, w0 = (w.alloc (.cells #[.string D, .string S, .string U, .string H, .int .i64 n, .slice ao F.length ac, .slice bo G.length bc, .slice co P.length cc] 26)).alloc (.cells #[.string D, .string S, .string U, .string H, .int .i64 n, .slice xo F.length xc, .slice yo G.length yc, .slice zo P.length zc] 26) := ⟨_, rfl⟩
  rw [← hw0] at hB0 bm0 bn0
  have HX := Lib.hid (fun (wx : World) (h : Below w0.heap.size w0 wx) => (show Blk wx w.heap.size 26 #[.string D, .string S, .string U, .string H, .int .i64 n, .slice ao F.length ac, .slice bo G.length bc, .slice co P.length cc] ∧ Blk wx (w.heap.size + 1) 26 #[.string D, .string S, .string U, .string H, .int .i64 n, .slice xo F.length xc, .slice yo G.length yc, .slice zo P.length zc] ∧ Below w.heap.size w wx ∧ RPrms wx (.slice ao F.length ac) F ∧ RPrms wx (.slice bo G.length bc) G ∧ RPrms wx (.slice co P.length cc) P ∧ RPrms wx (.slice xo F.length xc) F ∧ RPrms wx (.slice yo G.length yc) G ∧ RPrms wx (.slice zo P.length zc) P from by
    have hx := hB0.trans (h.mono hB0.size)
    exact ⟨bm0.call h, bn0.call h, hx, H1.out.below hx (Nat.le_refl _), H2.out.below hx (Nat.le_refl _), H3.out.below hx (Nat.le_refl _), H4.out.below hx (Nat.le_refl _), H5.out.below hx (Nat.le_refl _), H6.out.below hx (Nat.le_refl _)⟩))
  have HW0 := Lib.hid hw0
  have hZ : Below w0.heap.size w0 w0 := Below.refl _ _
  obtain ⟨bm, bn, hBB, k0, k1, k2, k3, k4, k5⟩ := HX.out _ hZ
  clear hw0 bm0 bn0 hB0
  obtain ⟨p0, p1, p2, p3, p4, p5, p6, p7⟩ := blk_f8 bm
  obtain ⟨q0, q1, q2, q3, q4, q5, q6, q7⟩ := blk_f8 bn
  go_enter Tryz.func20, Tryz.ntmps20
  go_wp2_with (first | (go_at_call 43; (try rw [← HW0.out]); refine (HS.out _ k0 k1 k3 k4).mono ?_; rintro e w1 ⟨rfl, hC⟩; replace hZ := hZ.trans (hC.mono hZ.size); clear k0 k1 k2 k3 k4 k5 bm bn hBB p0 p1 p2 p3 p4 p5 p6 p7 q0 q1 q2 q3 q4 q5 q6 q7; obtain ⟨bm, bn, hBB, k0, k1, k2, k3, k4, k5⟩ := HX.out _ hZ; obtain ⟨p0, p1, p2, p3, p4, p5, p6, p7⟩ := blk_f8 bm; obtain ⟨q0, q1, q2, q3, q4, q5, q6, q7⟩ := blk_f8 bn) | (go_at_call 64; refine (HL.out _ k2 k5).mono ?_; rintro e w1 ⟨rfl, hC⟩; replace hZ := hZ.trans (hC.below (B := w0.heap.size)); clear k0 k1 k2 k3 k4 k5 bm bn hBB p0 p1 p2 p3 p4 p5 p6 p7 q0 q1 q2 q3 q4 q5 q6 q7; obtain ⟨bm, bn, hBB, k0, k1, k2, k3, k4, k5⟩ := HX.out _ hZ; obtain ⟨p0, p1, p2, p3, p4, p5, p6, p7⟩ := blk_f8 bm; obtain ⟨q0, q1, q2, q3, q4, q5, q6, q7⟩ := blk_f8 bn))
  go_ret
  exact ⟨rfl, hBB⟩

end Go.Proofs.YtipdiddjhimdcaaGreatDoor

namespace Go.Proofs.YtipdiddjhimdcaaGreatDoor
set_option linter.unusedSimpArgs false
set_option linter.unusedVariables false
open Go.RowKit

/-- a slice of addresses that reads as L -/
def RAdrs (w : World) (v : Value) (L : List Adr) : Prop :=
  ((∃ ao cap, v = .slice ao 0 cap) ∧ L = []) ∨
  ∃ b off cap, v = .slice (some ⟨b, off, none⟩) L.length cap ∧ L.length ≤ cap ∧ cap ≤ maxLen ∧ b < w.heap.size ∧
    ∀ j (hj : j < L.length), w.cell? ⟨b, off + j * 8, none⟩ = some (sv L[j].disp) ∧ w.cell? ⟨b, off + j * 8 + 1, none⟩ = some (sv L[j].uri.scheme) ∧ w.cell? ⟨b, off + j * 8 + 2, none⟩ = some (sv L[j].uri.user) ∧ w.cell? ⟨b, off + j * 8 + 3, none⟩ = some (sv L[j].uri.host) ∧ w.cell? ⟨b, off + j * 8 + 4, none⟩ = some (.int .i64 L[j].uri.port) ∧ ∃ u1 u2 u3, w.cell? ⟨b, off + j * 8 + 5, none⟩ = some u1 ∧ w.cell? ⟨b, off + j * 8 + 6, none⟩ = some u2 ∧ w.cell? ⟨b, off + j * 8 + 7, none⟩ = some u3 ∧ RPrms w u1 L[j].uri.ps ∧ RPrms w u2 L[j].uri.hs ∧ RPrms w u3 L[j].ps
theorem RAdrs.below {w w' : World} {B : Nat} {v : Value} {L : List Adr} (h : RAdrs w v L) (hB : Below B w w') (hs : w.heap.size ≤ B) : RAdrs w' v L := by
  rcases h with h | ⟨b, off, cap, h1, h2, h2', h3, h4⟩
  · exact .inl h
  · refine .inr ⟨b, off, cap, h1, h2, h2', Nat.lt_of_lt_of_le h3 hB.size, fun j hj => ?_⟩
    obtain ⟨a0, a1, a2, a3, a4, u1, u2, u3, a5, a6, a7, k1, k2, k3⟩ := h4 j hj
    have hb : b < B := by omega
    rw [hB.cell (p := ⟨b, off + j * 8, none⟩) hb, hB.cell (p := ⟨b, off + j * 8 + 1, none⟩) hb, hB.cell (p := ⟨b, off + j * 8 + 2, none⟩) hb, hB.cell (p := ⟨b, off + j * 8 + 3, none⟩) hb, hB.cell (p := ⟨b, off + j * 8 + 4, none⟩) hb, hB.cell (p := ⟨b, off + j * 8 + 5, none⟩) hb, hB.cell (p := ⟨b, off + j * 8 + 6, none⟩) hb, hB.cell (p := ⟨b, off + j * 8 + 7, none⟩) hb]
    exact ⟨a0, a1, a2, a3, a4, u1, u2, u3, a5, a6, a7, k1.below hB hs, k2.below hB hs, k3.below hB hs⟩
theorem RAdrs.form {w : World} {v : Value} {L : List Adr} (h : RAdrs w v L) : ∃ ao cap, v = .slice ao L.length cap ∧ L.length ≤ maxLen ∧
    (0 < L.length → ∃ b off, ao = some ⟨b, off, none⟩ ∧ b < w.heap.size ∧ ∀ j (hj : j < L.length), w.cell? ⟨b, off + j * 8, none⟩ = some (sv L[j].disp) ∧ w.cell? ⟨b, off + j * 8 + 1, none⟩ = some (sv L[j].uri.scheme) ∧ w.cell? ⟨b, off + j * 8 + 2, none⟩ = some (sv L[j].uri.user) ∧ w.cell? ⟨b, off + j * 8 + 3, none⟩ = some (sv L[j].uri.host) ∧ w.cell? ⟨b, off + j * 8 + 4, none⟩ = some (.int .i64 L[j].uri.port) ∧ ∃ u1 u2 u3, w.cell? ⟨b, off + j * 8 + 5, none⟩ = some u1 ∧ w.cell? ⟨b, off + j * 8 + 6, none⟩ = some u2 ∧ w.cell? ⟨b, off + j * 8 + 7, none⟩ = some u3 ∧ RPrms w u1 L[j].uri.ps ∧ RPrms w u2 L[j].uri.hs ∧ RPrms w u3 L[j].ps) := by
  rcases h with ⟨⟨ao, cap, rfl⟩, rfl⟩ | ⟨b, off, cap, rfl, h2, h2', h3, h4⟩
  · exact ⟨ao, cap, rfl, Nat.zero_le _, fun h => by simp at h⟩
  · exact ⟨some ⟨b, off, none⟩, cap, rfl, Nat.le_trans h2 h2', fun _ => ⟨b, off, rfl, h3, h4⟩⟩
theorem RAdrs.nil (w : World) : RAdrs w (.slice none 0 0) [] := .inl ⟨⟨_, _, rfl⟩, rfl⟩

abbrev AdrU := Adr × (Value × Value × Value)
def rowA (r : AdrU) : List Value := [sv r.1.disp, sv r.1.uri.scheme, sv r.1.uri.user, sv r.1.uri.host, .int .i64 r.1.uri.port, r.2.1, r.2.2.1, r.2.2.2]
def FreeA (v u : Value) (L : List Prm) : Prop := L ≠ [] → ∀ a n c, u = .slice (some a) n c → v.ownBlock ≠ some a.block
def AdrU.ok (w : World) (v : Value) (r : AdrU) : Prop := (RPrms w r.2.1 r.1.uri.ps ∧ RPrms w r.2.2.1 r.1.uri.hs ∧ RPrms w r.2.2.2 r.1.ps) ∧ FreeA v r.2.1 r.1.uri.ps ∧ FreeA v r.2.2.1 r.1.uri.hs ∧ FreeA v r.2.2.2 r.1.ps
/-- a slice of addresses of the call's own; each beside the slices of its parameters, which lie in other blocks -/
def Adrs (w : World) (base : Nat) (v : Value) (R : List AdrU) : Prop :=
  w.ownsRow base 26 8 v R.length (R.flatMap rowA) ∧ ∀ r ∈ R, r.ok w v
theorem Adrs.nil (w : World) (base : Nat) : Adrs w base (.slice none 0 0) [] := ⟨World.ownsRow_nil w base _ 8, fun r hr => by cases hr⟩
theorem flat_atA : ∀ (L : List AdrU) (j : Nat) (hj : j < L.length) (i : Nat), i < 8 → (L.flatMap rowA)[j * 8 + i]? = (rowA L[j])[i]?
  | p :: r, 0, _, i, hi => by
    rw [List.flatMap_cons, Nat.zero_mul, Nat.zero_add, List.getElem?_append_left (by simpa [rowA] using hi)]; rfl
  | p :: r, j + 1, hj, i, hi => by
    rw [List.flatMap_cons, List.getElem?_append_right (by simp [rowA]; omega)]
    have : (j + 1) * 8 + i - (rowA p).length = j * 8 + i := by simp [rowA]; omega
    rw [this]
    exact flat_atA r j (by simpa using hj) i hi
theorem Adrs.read {w : World} {base : Nat} {v : Value} {R : List AdrU} (h : Adrs w base v R) : RAdrs w v (R.map Prod.fst) := by
  rcases RRow.of_own h.1 with ⟨h1, h2, _⟩ | ⟨b, off, cap, h1, h2, h2', h3, h4⟩
  · exact .inl ⟨h1, by rw [List.eq_nil_of_length_eq_zero h2]; rfl⟩
  · refine .inr ⟨b, off, cap, by rw [List.length_map]; exact h1, by rw [List.length_map]; exact h2, h2', h3, fun j hj => ?_⟩
    rw [List.length_map] at hj
    rw [List.getElem_map]
    obtain ⟨⟨g1, g2, g3⟩, _⟩ := h.2 _ (List.getElem_mem hj)
    exact ⟨h4 (j * 8) _ (flat_atA R j hj 0 (by decide)), h4 (j * 8 + 1) _ (flat_atA R j hj 1 (by decide)), h4 (j * 8 + 2) _ (flat_atA R j hj 2 (by decide)), h4 (j * 8 + 3) _ (flat_atA R j hj 3 (by decide)), h4 (j * 8 + 4) _ (flat_atA R j hj 4 (by decide)), R[j].2.1, R[j].2.2.1, R[j].2.2.2, h4 (j * 8 + 5) _ (flat_atA R j hj 5 (by decide)), h4 (j * 8 + 6) _ (flat_atA R j hj 6 (by decide)), h4 (j * 8 + 7) _ (flat_atA R j hj 7 (by decide)), g1, g2, g3⟩
theorem Adrs.below {w w' : World} {base B : Nat} {v : Value} {R : List AdrU} (h : Adrs w base v R) (hB : Below B w w') (hs : w.heap.size ≤ B) : Adrs w' base v R := by
  refine ⟨⟨h.1.1, ?_⟩, fun r hr => ⟨⟨(h.2 r hr).1.1.below hB hs, (h.2 r hr).1.2.1.below hB hs, (h.2 r hr).1.2.2.below hB hs⟩, (h.2 r hr).2⟩⟩
  rcases h.1.2 with hn | ⟨g, cap, cur, rfl, hb, hgg, rest⟩
  · exact .inl hn
  · refine .inr ⟨g, cap, cur, rfl, hb, ?_, rest⟩
    have hlt := (Array.getElem?_eq_some_iff.1 hgg).1
    rw [hB.block g (by omega)]; exact hgg
theorem Adrs.lt {w : World} {base : Nat} {v : Value} {R : List AdrU} (h : Adrs w base v R) : ∀ k, v.ownBlock = some k → k < w.heap.size := by
  intro k hk
  rcases h.1.2 with ⟨rfl, _⟩ | ⟨g, cap, cur, rfl, hb, hgg, rest⟩
  · simp [Value.ownBlock] at hk
  · have e : g = k := by simpa [Value.ownBlock] using hk
    subst e
    exact (Array.getElem?_eq_some_iff.1 hgg).1
theorem Adrs.free {w wx : World} {base : Nat} {v u : Value} {R : List AdrU} {q : List Prm} (h : Adrs w base v R) (hF : Fresh wx.heap.size u) (hs : w.heap.size ≤ wx.heap.size) : FreeA v u q := by
  intro _ a n c e e2
  have h1 := h.lt _ e2
  have h2 := hF a n c e
  omega
section
variable {P : Program} {ops : Array Oper} {rest : List Oper} {o : Oper} {a : Act} {Q : Exit → Act → World → Prop}
end

end Go.Proofs.YtipdiddjhimdcaaGreatDoor

namespace Go.Proofs.YtipdiddjhimdcaaGreatDoor
set_option linter.unusedSimpArgs false
set_option linter.unusedVariables false
open Go.RowKit

structure Dlg where
  call : List UInt8
  loc : Adr
  rem : Adr
  tgt : Uri
  routes : List (List UInt8)
  lin : Int
  lout : Int
structure Rq where
  fr : Adr
  dst : Adr
  fromT : List UInt8
  toT : List UInt8
  call : List UInt8
  seq : Int
  contact : List Adr
  routes : List (List UInt8)
def dlg0 : Dlg := ⟨[], adr0, adr0, uri0, [], 0, 0⟩
def taggedS (a : Adr) (t : List UInt8) : Adr := ⟨a.disp, a.uri, a.ps ++ [⟨nTag, t, true⟩]⟩
def beginS (r : Rq) (t : List UInt8) : Dlg × Int :=
  if r.toT ≠ [] ∨ r.fromT = [] ∨ token t = false then (dlg0, 1)
  else match r.contact with
  | [c] => if checkA (taggedS r.dst t) = 0 then (⟨r.call, taggedS r.dst t, r.fr, c.uri, r.routes, r.seq, 0⟩, 0) else (dlg0, checkA (taggedS r.dst t))
  | _ => (dlg0, 100)
def matchD (d : Dlg) (r : Rq) : Bool := r.call == d.call && r.toT == tagA d.loc && r.fromT == tagA d.rem
def takeD (d : Dlg) (r : Rq) : Dlg := ⟨d.call, d.loc, d.rem, (match r.contact with | [c] => c.uri | _ => d.tgt), d.routes, r.seq, d.lout⟩
def takeS (d : Dlg) (r : Rq) : Dlg × Int := if matchD d r = false then (d, 6) else if r.seq ≤ d.lin then (d, 180) else (takeD d r, 0)
def byU (u : Uri) : List UInt8 := byV ⟨u.host, u.port, []⟩
def whereD (d : Dlg) : List UInt8 := match d.routes with | [] => byU d.tgt | x :: _ => if (parseA x).2 = 0 then byU (parseA x).1.uri else []
def RDlg (w : World) (v : Value) (d : Dlg) : Prop :=
  ∃ u1 u2 u3 u4 u5 u6 u7 u8 u9, v = .agg #[.string (bs d.call), .string (bs d.loc.disp), .string (bs d.loc.uri.scheme), .string (bs d.loc.uri.user), .string (bs d.loc.uri.host), .int .i64 d.loc.uri.port, u1, u2, u3, .string (bs d.rem.disp), .string (bs d.rem.uri.scheme), .string (bs d.rem.uri.user), .string (bs d.rem.uri.host), .int .i64 d.rem.uri.port, u4, u5, u6, .string (bs d.tgt.scheme), .string (bs d.tgt.user), .string (bs d.tgt.host), .int .i64 d.tgt.port, u7, u8, u9, .int .i64 d.lin, .int .i64 d.lout] ∧ RPrms w u1 d.loc.uri.ps ∧ RPrms w u2 d.loc.uri.hs ∧ RPrms w u3 d.loc.ps ∧ RPrms w u4 d.rem.uri.ps ∧ RPrms w u5 d.rem.uri.hs ∧ RPrms w u6 d.rem.ps ∧ RPrms w u7 d.tgt.ps ∧ RPrms w u8 d.tgt.hs ∧ RStrs w u9 d.routes
def RReq (w : World) (v : Value) (r : Rq) : Prop :=
  ∃ c0 c1 c2 c3 c4 c5 c6 c7 c8 c9 c10 c11 c12 c13 c14 c15 u1 u2 u3 u4 u5 u6 u7 u8, v = .agg #[c0, c1, c2, c3, c4, c5, c6, c7, c8, .string (bs r.fr.disp), .string (bs r.fr.uri.scheme), .string (bs r.fr.uri.user), .string (bs r.fr.uri.host), .int .i64 r.fr.uri.port, u1, u2, u3, .string (bs r.dst.disp), .string (bs r.dst.uri.scheme), .string (bs r.dst.uri.user), .string (bs r.dst.uri.host), .int .i64 r.dst.uri.port, u4, u5, u6, .string (bs r.fromT), .string (bs r.toT), .string (bs r.call), .int .i64 r.seq, c9, c10, c11, u7, u8, c12, c13, c14, c15] ∧ RPrms w u1 r.fr.uri.ps ∧ RPrms w u2 r.fr.uri.hs ∧ RPrms w u3 r.fr.ps ∧ RPrms w u4 r.dst.uri.ps ∧ RPrms w u5 r.dst.uri.hs ∧ RPrms w u6 r.dst.ps ∧ RAdrs w u7 r.contact ∧ RStrs w u8 r.routes
theorem RDlg.below {w w' : World} {B : Nat} {v : Value} {d : Dlg} (h : RDlg w v d) (hB : Below B w w') (hs : w.heap.size ≤ B) : RDlg w' v d := by
  obtain ⟨u1, u2, u3, u4, u5, u6, u7, u8, u9, rfl, h1, h2, h3, h4, h5, h6, h7, h8, h9⟩ := h
  exact ⟨u1, u2, u3, u4, u5, u6, u7, u8, u9, rfl, h1.below hB hs, h2.below hB hs, h3.below hB hs, h4.below hB hs, h5.below hB hs, h6.below hB hs, h7.below hB hs, h8.below hB hs, h9.below hB hs⟩
theorem RReq.below {w w' : World} {B : Nat} {v : Value} {r : Rq} (h : RReq w v r) (hB : Below B w w') (hs : w.heap.size ≤ B) : RReq w' v r := by
  obtain ⟨c0, c1, c2, c3, c4, c5, c6, c7, c8, c9, c10, c11, c12, c13, c14, c15, u1, u2, u3, u4, u5, u6, u7, u8, rfl, h1, h2, h3, h4, h5, h6, h7, h8⟩ := h
  exact ⟨c0, c1, c2, c3, c4, c5, c6, c7, c8, c9, c10, c11, c12, c13, c14, c15, u1, u2, u3, u4, u5, u6, u7, u8, rfl, h1.below hB hs, h2.below hB hs, h3.below hB hs, h4.below hB hs, h5.below hB hs, h6.below hB hs, h7.below hB hs, h8.below hB hs⟩

end Go.Proofs.YtipdiddjhimdcaaGreatDoor

namespace Go.Proofs.YtipdiddjhimdcaaGreatDoor
set_option linter.unusedSimpArgs false
set_option linter.unusedVariables false
open Go.RowKit Go.Sort


set_option maxRecDepth 100000 in
set_option maxHeartbeats 6400000 in
theorem checkAR_c (D S U H : ByteArray) (n : Int) (u1 u2 u3 : Value) (F G P : List Prm) (hD : D.size ≤ 4294967280) (hS : S.size ≤ 4294967280) (hH : H.size ≤ 4294967280) (w : World) (h1 : RPrms w u1 F) (h2 : RPrms w u2 G) (h3 : RPrms w u3 P) (hb1 : ∀ p ∈ F, p.name.length ≤ 4294967280 ∧ p.value.length ≤ 4294967280) (hb2 : ∀ p ∈ G, p.name.length ≤ 4294967280 ∧ p.value.length ≤ 4294967280) (hb3 : ∀ p ∈ P, p.name.length ≤ 4294967280 ∧ p.value.length ≤ 4294967280) :
    Calls Tryz.prog 66 #[.agg #[.string D, .string S, .string U, .string H, .int .i64 n, u1, u2, u3]] w fun e w' => e = .returned (.int .i64 (checkA (⟨us D, ⟨us S, us U, us H, n, F, G⟩, P⟩ : Adr))) ∧ Below w.heap.size w w' := by
  
  have HU1 := Lib.hid h1
  have HU2 := Lib.hid h2
  have HU3 := Lib.hid h3
  obtain ⟨ao, ac, rfl, _, _⟩ := h1.form
  obtain ⟨bo, bc, rfl, _, _⟩ := h2.form
  obtain ⟨co, cc, rfl, _, _⟩ := h3.form
  have HQ := Lib.hid (fun wx => quoteR_c D (by omega) wx)
  have HU := Lib.hid (fun wx h1 h2 => checkUR_c S U H n (.slice ao F.length ac) (.slice bo G.length bc) F G hS hH wx h1 h2 hb1 hb2)
  have HT := Lib.hid (fun wx hv => textR_c (.slice co P.length cc) P wx hv hb3)
  have hcs := checkA_cases D S U H n F G P
  obtain ⟨q, hq⟩ : ∃ q, q = quote (us D) := ⟨_, rfl⟩
  obtain ⟨cu, hcu⟩ : ∃ q, q = checkU ⟨us S, us U, us H, n, F, G⟩ := ⟨_, rfl⟩
  obtain ⟨t, ht⟩ : ∃ q, q = textS P := ⟨_, rfl⟩
  obtain ⟨C, hC⟩ : ∃ C, C = checkA (⟨us D, ⟨us S, us U, us H, n, F, G⟩, P⟩ : Adr) := ⟨_, rfl⟩
  rw [← hq] at HQ hcs
  rw [← hcu] at HU hcs
  rw [← ht] at HT hcs
  rw [← hC] at hcs ⊢
  clear hq hcu ht hC h1 h2 h3 hb1 hb2 hb3
  obtain ⟨qs, qe⟩ := q
  obtain ⟨ts, te⟩ := t
  dsimp only at hcs HQ HT
  have hB0 : Below w.heap.size w (w.alloc (.cells #[.string D, .string S, .string U, .string H, .int .i64 n, .slice ao F.length ac, .slice bo G.length bc, .slice co P.length cc] 26)) := (Below.refl _ _).alloc (Nat.le_refl _) _
  have bm0 := Blk.new w 26 #[.string D, .string S, .string U, .string H, .int .i64 n, .slice ao F.length ac, .slice bo G.length bc, .slice co P.length cc]
  obtain ⟨w0, hw0⟩ : ∃ w0, w0 = w.alloc (.cells #[.string D, .string S, .string U, .string H, .int .i64 n, .slice ao F.length ac, .slice bo G.length bc, .slice co P.length cc] 26) := ⟨_, rfl⟩
  rw [← hw0] at hB0 bm0
  have HX := Lib.hid (fun (wx : World) (h : Below w0.heap.size w0 wx) => (show Blk wx w.heap.size 26 #[.string D, .string S, .string U, .string H, .int .i64 n, .slice ao F.length ac, .slice bo G.length bc, .slice co P.length cc] ∧ Below w.heap.size w wx ∧ True ∧ RPrms wx (.slice ao F.length ac) F ∧ RPrms wx (.slice bo G.length bc) G ∧ RPrms wx (.slice co P.length cc) P from by
    have hx := hB0.trans (h.mono hB0.size)
    exact ⟨bm0.call h, hx, trivial, HU1.out.below hx (Nat.le_refl _), HU2.out.below hx (Nat.le_refl _), HU3.out.below hx (Nat.le_refl _)⟩))
  have HW0 := Lib.hid hw0
  have hZ : Below w0.heap.size w0 w0 := Below.refl _ _
  obtain ⟨bm, hBB, hMM, hU1, hU2, hU3⟩ := HX.out _ hZ
  obtain ⟨p0, p1, p2, p3, p4, p5, p6, p7⟩ := blk_f8 bm
  clear hw0 bm0 hB0
  rcases hcs with ⟨c1, rfl⟩ | ⟨c1, c2, rfl⟩ | ⟨c1, c2, c3, rfl⟩ | ⟨c1, c2, rfl, rfl⟩
  · by_cases hd64 : 64 < D.size
    all_goals
      go_enter Tryz.func66, Tryz.ntmps66
      go_wp2_with (first | (go_at_call 118; (try rw [← HW0.out]); refine (HQ.out _).mono ?_; rintro e w1 ⟨rfl, hC1⟩; have hZ := hZ.trans (hC1.mono hZ.size); obtain ⟨bm, hBB, hMM, hU1, hU2, hU3⟩ := HX.out _ hZ; obtain ⟨p0, p1, p2, p3, p4, p5, p6, p7⟩ := blk_f8 bm) | (go_at_call 119; refine (HU.out _ hU1 hU2).mono ?_; rintro e w2 ⟨rfl, hC2⟩; have hZ := hZ.trans (hC2.mono hZ.size); obtain ⟨bm, hBB, hMM, hU1, hU2, hU3⟩ := HX.out _ hZ; obtain ⟨p0, p1, p2, p3, p4, p5, p6, p7⟩ := blk_f8 bm) | (go_at_call 120; refine (HT.out _ hU3).mono ?_; rintro e w3 ⟨rfl, hC3⟩; have hZ := hZ.trans (hC3.mono hZ.size); obtain ⟨bm, hBB, hMM, hU1, hU2, hU3⟩ := HX.out _ hZ; obtain ⟨p0, p1, p2, p3, p4, p5, p6, p7⟩ := blk_f8 bm))
      go_ret
      exact ⟨by first | rfl | exact ret_int (by assumption), hBB⟩
  all_goals
    go_enter Tryz.func66, Tryz.ntmps66
    go_wp2_with (first | (go_at_call 118; (try rw [← HW0.out]); refine (HQ.out _).mono ?_; rintro e w1 ⟨rfl, hC1⟩; have hZ := hZ.trans (hC1.mono hZ.size); obtain ⟨bm, hBB, hMM, hU1, hU2, hU3⟩ := HX.out _ hZ; obtain ⟨p0, p1, p2, p3, p4, p5, p6, p7⟩ := blk_f8 bm) | (go_at_call 119; refine (HU.out _ hU1 hU2).mono ?_; rintro e w2 ⟨rfl, hC2⟩; have hZ := hZ.trans (hC2.mono hZ.size); obtain ⟨bm, hBB, hMM, hU1, hU2, hU3⟩ := HX.out _ hZ; obtain ⟨p0, p1, p2, p3, p4, p5, p6, p7⟩ := blk_f8 bm) | (go_at_call 120; refine (HT.out _ hU3).mono ?_; rintro e w3 ⟨rfl, hC3⟩; have hZ := hZ.trans (hC3.mono hZ.size); obtain ⟨bm, hBB, hMM, hU1, hU2, hU3⟩ := HX.out _ hZ; obtain ⟨p0, p1, p2, p3, p4, p5, p6, p7⟩ := blk_f8 bm))
    go_ret
    exact ⟨by first | rfl | exact ret_int (by assumption), hBB⟩

set_option maxHeartbeats 3200000 in
theorem tagAR_c (D S U H : ByteArray) (n : Int) (u1 u2 u3 : Value) (F G P : List Prm) (w : World) (h3 : RPrms w u3 P) (hb : ∀ p ∈ P, p.name.length ≤ 4294967280) (f1 : ∃ ao c, u1 = .slice ao F.length c) (f2 : ∃ ao c, u2 = .slice ao G.length c) :
    Calls Tryz.prog 67 #[.agg #[.string D, .string S, .string U, .string H, .int .i64 n, u1, u2, u3]] w fun e w' => e = .returned (.string (bs (value P nTag).1)) ∧ Below w.heap.size w w' := by
  have HU := Lib.hid h3
  obtain ⟨ao, ac, rfl⟩ := f1
  obtain ⟨bo, bc, rfl⟩ := f2
  obtain ⟨co, cc, rfl, _, _⟩ := h3.form
  clear h3
  have HV := Lib.hid (fun wx hv => valueR_c (.slice co P.length cc) P ⟨#[116, 97, 103]⟩ (by decide) wx hv (fun p hp => by have := hb p hp; omega))
  rw [show us ⟨#[116, 97, 103]⟩ = nTag from rfl] at HV
  obtain ⟨q, hq⟩ : ∃ q, q = value P nTag := ⟨_, rfl⟩
  rw [← hq] at HV ⊢
  clear hq hb
  have hZ := (Below.refl w.heap.size w).alloc (Nat.le_refl _) (.cells #[.string D, .string S, .string U, .string H, .int .i64 n, .slice ao F.length ac, .slice bo G.length bc, .slice co P.length cc] 26)
  go_enter Tryz.func67, Tryz.ntmps67
  go_wp2_with (go_at_call 121; refine (HV.out _ (HU.out.below hZ (Nat.le_refl _))).mono ?_; rintro e w1 ⟨rfl, hC1⟩; have hZ := hZ.trans (hC1.mono hZ.size))
  go_ret
  exact ⟨rfl, hZ⟩


end Go.Proofs.YtipdiddjhimdcaaGreatDoor

