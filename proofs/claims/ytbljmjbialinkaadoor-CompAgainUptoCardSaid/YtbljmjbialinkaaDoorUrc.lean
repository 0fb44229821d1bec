/-
  uri.plain, uri.read, uri.pair.
-/
import Derived.Test.YtbljmjbialinkaaDoorUrs
import Derived.Test.YtbljmjbialinkaaDoorFld
import Derived.Test.YtbljmjbialinkaaDoorScS
namespace Go.Proofs.YtbljmjbialinkaaDoor
open Go.RowKit

theorem idx_has : ∀ (l : List UInt8) (c : UInt8), -1 ≤ Lib.indexByte l c ∧ hasb l c = decide (0 ≤ Lib.indexByte l c)
  | [], c => ⟨by rw [Lib.indexByte]; omega, rfl⟩
  | b :: l, c => by
    obtain ⟨h1, h2⟩ := idx_has l c
    unfold hasb at h2 ⊢
    rw [List.any_cons, h2, Lib.indexByte]
    by_cases hb : b = c
    · subst hb
      rw [if_pos (by simp)]
      exact ⟨by omega, by simp⟩
    · have e : (b.toNat == c.toNat) = false := by
        rw [beq_eq_false_iff_ne]; intro h; exact hb (UInt8.toNat_inj.1 h)
      rw [if_neg (by simpa using hb), e, Bool.false_or]
      by_cases hm : Lib.indexByte l c = -1
      · rw [if_pos (by rw [hm]; rfl), hm]; exact ⟨by decide, rfl⟩
      · rw [if_neg (by simpa using hm)]
        exact ⟨by omega, by rw [Bool.eq_iff_iff, decide_eq_true_iff, decide_eq_true_iff]; omega⟩
theorem idxB_c (K : ByteArray) (c : UInt8) (w : World) :
    Calls Tryd.prog 42 #[.string K, .int .u8 c.toNat] w fun e w' => e = .returned (.int .i64 (Lib.indexByte (us K) c)) ∧ w = w' := by
  refine (Tryd.strings_IndexByte K c.toNat w).mono ?_
  rintro e w' ⟨rfl, rfl⟩
  exact ⟨by simp [us], rfl⟩
theorem ret_sb {a b : ByteArray} {x y : Bool} (h : a = b) (h' : x = y) : Ending.returned (.tuple #[.string a, .bool x]) = .returned (.tuple #[.string b, .bool y]) := by rw [h, h']
def optB (o : Option (List UInt8)) : List UInt8 × Bool := match o with | some r => (r, true) | none => ([], false)
def optP (o : Option (List Prm)) : List Prm × Bool := match o with | some r => (r, true) | none => ([], false)
theorem mayW_cases (K : List UInt8) (c : UInt8) :
    (((c.toNat : Int) != 37) = false ∧ mayW K c = true) ∨ (((c.toNat : Int) != 37) = true ∧ (bits BinOp.and IntKind.i64 (cls c) 16 == 0) = false ∧ mayW K c = true) ∨
    (((c.toNat : Int) != 37) = true ∧ (bits BinOp.and IntKind.i64 (cls c) 16 == 0) = true ∧ ¬ Lib.indexByte K c < 0 ∧ mayW K c = true) ∨ (((c.toNat : Int) != 37) = true ∧ (bits BinOp.and IntKind.i64 (cls c) 16 == 0) = true ∧ Lib.indexByte K c < 0 ∧ mayW K c = false) := by
  obtain ⟨h1, h2⟩ := idx_has K c
  have e : mayW K c = (c.toNat == 37 || !(bits BinOp.and IntKind.i64 (cls c) 16 == 0) || hasb K c) := rfl
  rw [e, h2]
  by_cases h : c.toNat = 37
  · exact .inl ⟨by simp; omega, by simp [h]⟩
  have hn : ((c.toNat : Int) != 37) = true := by simp; omega
  have hm : (c.toNat == 37) = false := by simpa using h
  rw [hm, hn]
  cases (bits BinOp.and IntKind.i64 (cls c) 16 == 0)
  · exact .inr (.inl ⟨rfl, rfl, rfl⟩)
  · by_cases hz : Lib.indexByte K c < 0
    · exact .inr (.inr (.inr ⟨rfl, rfl, hz, by rw [decide_eq_false (by omega)]; rfl⟩))
    · exact .inr (.inr (.inl ⟨rfl, rfl, hz, by rw [decide_eq_true (by omega)]; rfl⟩))
theorem written_bad (s : ByteArray) (K : List UInt8) (k : Nat) (h : k < s.size) (hb : mayW K s[k] = false) : optB (writtenS (us s) K) = ([], false) := by
  unfold writtenS
  rw [if_neg]
  · rfl
  · intro ha
    rw [List.all_eq_true] at ha
    have := ha s[k] (List.mem_of_getElem? (get_us s k h))
    rw [hb] at this; cases this
theorem written_more (s : ByteArray) (K : List UInt8) (k : Nat) (h : k < s.size) (hp : ((us s).take k).all (mayW K) = true) (hb : mayW K s[k] = true) : ((us s).take (k + 1)).all (mayW K) = true := by
  rw [take_us s k h, List.all_append, hp]; simp [hb]
theorem written_end (s : ByteArray) (K : List UInt8) (k : Nat) (h : s.size ≤ k) (hp : ((us s).take k).all (mayW K) = true) :
    ∃ b : Bool, optB (writtenS (us s) K) = ((unescape (us s)).1, b) ∧ ((unescape (us s)).2 == 0) = b := by
  rw [List.take_of_length_le (by rw [length_us]; exact h)] at hp
  unfold writtenS unescape
  rw [if_pos hp]
  cases unesc (us s) with
  | none => exact ⟨false, rfl, rfl⟩
  | some r => exact ⟨true, rfl, rfl⟩

set_option maxHeartbeats 1600000 in
theorem plain_c (s K : ByteArray) (hs : s.size ≤ 4294967280) (w : World) :
    Calls Tryd.prog 28 #[.string s, .string K] w fun e w' => e = .returned (.tuple #[.string (bs (optB (writtenS (us s) (us K))).1), .bool (optB (writtenS (us s) (us K))).2]) ∧ Below w.heap.size w w' := by
  have HU := Lib.hid (fun wx => unescape_c s (by omega) wx)
  have HWB := Lib.hid (fun k h hb => written_bad s (us K) k h hb)
  have HWM := Lib.hid (fun k h hp hb => written_more s (us K) k h hp hb)
  have HWE := Lib.hid (fun k h hp => written_end s (us K) k h hp)
  go_enter Tryd.func28, Tryd.ntmps28
  go_wp2
  go_loop [11] (fun i => ∃ k : Nat, k ≤ s.size ∧ i = .int .i64 k ∧ Hid (((us s).take k).all (mayW (us K)) = true)) (fun i => s.size - (intOf i).toNat)
  case atStart => exact ⟨0, Nat.zero_le _, rfl, Lib.hid rfl⟩
  case round =>
    obtain ⟨k, hk, rfl, HP⟩ := hrel
    by_cases hlt : k < s.size
    · rcases mayW_cases (us K) s[k] with ⟨h1, hm⟩ | ⟨h1, h2, hm⟩ | ⟨h1, h2, h3, hm⟩ | ⟨h1, h2, h3, hm⟩
      iterate 3
        · have HN := Lib.hid (HWM.out k hlt HP.out hm)
          clear hm
          go_wp2_with (first | (go_at_call 41; refine (class_c _ _).mono ?_; rintro e w' ⟨rfl, rfl⟩) | (go_at_call 42; refine (idxB_c K _ _).mono ?_; rintro e w' ⟨rfl, rfl⟩))
          go_round
          case rel => exact ⟨k + 1, by omega, by go_num, HN⟩
          case measure => simp [intOf]; omega
      · have HN := Lib.hid (HWB.out k hlt hm)
        clear hm
        go_wp2_with (first | (go_at_call 41; refine (class_c _ _).mono ?_; rintro e w' ⟨rfl, rfl⟩) | (go_at_call 42; refine (idxB_c K _ _).mono ?_; rintro e w' ⟨rfl, rfl⟩))
        go_ret2
        exact ⟨by rw [HN.out]; rfl, Below.refl _ _⟩
    · obtain ⟨b, hb1, hb2⟩ := HWE.out k (by omega) HP.out
      have HN := Lib.hid hb1
      obtain ⟨q, hq⟩ : ∃ q, q = unescape (us s) := ⟨_, rfl⟩
      rw [← hq] at HU hb2 HN
      clear hq hb1
      obtain ⟨t, e⟩ := q
      dsimp only at HU hb2 HN
      go_wp2_with (first | (go_at_call 43; refine (HU.out _).mono ?_; rintro e w1 ⟨rfl, hC1⟩))
      go_ret2
      exact ⟨ret_sb (by rw [HN.out]) (by rw [HN.out]), hC1⟩

theorem optP_some (L : List Prm) : optP (some L) = (L, true) := rfl
theorem read_step (K : List UInt8) (Ps : List (List UInt8)) (L : List Prm) (k : Nat) (h : k < Ps.length) (n v : List UInt8) (a b : Bool) (ha : optB (writtenS (cutb 61 Ps[k]).1 K) = (n, a)) (hb : optB (writtenS (cutb 61 Ps[k]).2.1 K) = (v, b))
    (hp : readGo K Ps = (readGo K (Ps.drop k)).map (L ++ ·)) :
    (a = false ∧ optP (readGo K Ps) = ([], false)) ∨ (a = true ∧ b = false ∧ optP (readGo K Ps) = ([], false)) ∨ (a = true ∧ b = true ∧ readGo K Ps = (readGo K (Ps.drop (k + 1))).map ((L ++ [⟨n, v, (cutb 61 Ps[k]).2.2⟩]) ++ ·)) := by
  rw [hp, List.drop_eq_getElem_cons h, readGo]
  cases h1 : writtenS (cutb 61 Ps[k]).1 K with
  | none =>
    rw [h1] at ha
    injection ha with _ ha
    exact .inl ⟨ha.symm, rfl⟩
  | some x =>
    rw [h1] at ha
    injection ha with ha1 ha
    subst ha1
    cases h2 : writtenS (cutb 61 Ps[k]).2.1 K with
    | none =>
      rw [h2] at hb
      injection hb with _ hb
      exact .inr (.inl ⟨ha.symm, hb.symm, rfl⟩)
    | some y =>
      rw [h2] at hb
      injection hb with hb1 hb
      subst hb1
      refine .inr (.inr ⟨ha.symm, hb.symm, ?_⟩)
      dsimp only [Option.bind]
      cases readGo K (Ps.drop (k + 1)) with
      | none => rfl
      | some R => simp
theorem read_end (K : List UInt8) (Ps : List (List UInt8)) (L : List Prm) (k : Nat) (h : Ps.length ≤ k) (hp : readGo K Ps = (readGo K (Ps.drop k)).map (L ++ ·)) : optP (readGo K Ps) = (L, true) := by
  rw [hp, List.drop_eq_nil_iff.2 h]; simp [readGo, optP]
theorem optB_len (l K : List UInt8) : (optB (writtenS l K)).1.length ≤ l.length := by
  have key : ∀ (n : Nat) (l : List UInt8), l.length ≤ n → ∀ r, unesc l = some r → r.length ≤ l.length := by
    intro n
    induction n with
    | zero =>
      intro l hl r hr
      have : l = [] := List.eq_nil_of_length_eq_zero (by omega)
      subst this
      rw [unesc] at hr; injection hr with hr; rw [← hr]; exact Nat.le_refl _
    | succ n ih =>
      intro l hl r hr
      cases l with
      | nil => rw [unesc] at hr; injection hr with hr; rw [← hr]; exact Nat.le_refl _
      | cons c t =>
        rw [List.length_cons] at hl
        by_cases hc : c.toNat = 37
        · cases t with
          | nil => rw [unesc.eq_def] at hr; dsimp only at hr; rw [if_pos hc] at hr; cases hr
          | cons a t =>
            cases t with
            | nil => rw [unesc.eq_def] at hr; dsimp only at hr; rw [if_pos hc] at hr; cases hr
            | cons b r' =>
              rw [unesc.eq_def] at hr; dsimp only at hr; rw [if_pos hc] at hr
              split at hr
              · obtain ⟨y, hy, rfl⟩ := Option.map_eq_some_iff.1 hr
                have := ih r' (by simp at hl; omega) y hy
                simp; omega
              · cases hr
        · rw [unesc_ne c t hc] at hr
          obtain ⟨y, hy, rfl⟩ := Option.map_eq_some_iff.1 hr
          have := ih t (by omega) y hy
          simp; omega
  unfold writtenS
  split
  · cases h : unesc l with
    | none => exact Nat.zero_le _
    | some r => exact key _ l (Nat.le_refl _) r h
  · exact Nat.zero_le _
def ReadPost (r : List Prm × Bool) (w : World) (e : Ending) (w' : World) : Prop := ∃ u, e = .returned (.tuple #[u, .bool r.2]) ∧ RPrms w' u r.1 ∧ Fresh w.heap.size u ∧ Below w.heap.size w w'

set_option maxRecDepth 100000 in
set_option maxHeartbeats 3200000 in
theorem read_c (v0 : Value) (Ps : List (List UInt8)) (K : ByteArray) (w : World) (hm : Ml w) (hv : RStrs w v0 Ps) (hbd : ∀ x ∈ Ps, x.length ≤ 4294967280) (hn : Ps.length ≤ 4294967290) :
    Calls Tryd.prog 31 #[v0, .string K] w (ReadPost (optP (readGo (us K) Ps)) w) := by
  have HM := Lib.hid hm
  rcases hv.form with ⟨ao, cap, rfl, hm1, c1⟩
  have C1 := Lib.hid c1
  have HBD := Lib.hid hbd
  clear c1 hv hbd hm
  unfold maxLen at hm1
  have HRS := Lib.hid (fun L k h n v a b ha hb hp => read_step (us K) Ps L k h n v a b ha hb hp)
  have HRE := Lib.hid (fun L k h hp => read_end (us K) Ps L k h hp)
  obtain ⟨R, hR⟩ : ∃ R, R = optP (readGo (us K) Ps) := ⟨_, rfl⟩
  rw [← hR] at HRS HRE ⊢
  go_enter Tryd.func31, Tryd.ntmps31
  go_wp2
  go_loopw [6, 18] (fun v i wr => ∃ (k : Nat) (L : List Prm), k ≤ Ps.length ∧ Hid (L.length = k) ∧ i = .int .i64 k ∧ Prms wr w.heap.size v L ∧ Below w.heap.size w wr ∧ Hid (readGo (us K) Ps = (readGo (us K) (Ps.drop k)).map (L ++ ·))) (fun _ i _ => Ps.length - (intOf i).toNat)
  case atStart => exact ⟨0, [], Nat.zero_le _, Lib.hid rfl, rfl, Prms.nil _ _, Below.refl _ _, Lib.hid (by simp)⟩
  case round =>
    obtain ⟨k, L, hk, HLk, rfl, hown, hB, HP⟩ := hrel
    by_cases hlt : k < Ps.length
    · obtain ⟨b, off, rfl, hb1, hc1⟩ := C1.out (by omega)
      have x0 : wr.cell? ⟨b, off + k, none⟩ = some (.string (bs Ps[k])) := (hB.cell (p := ⟨b, off + k, none⟩) hb1).trans (hc1 k hlt)
      have hxl := HBD.out _ (List.getElem_mem hlt)
      have hcl := cutb_le 61 Ps[k]
      have HMr := Lib.hid (HM.out.below hB)
      have HCT := Lib.hid (fun wx hx => cut_c (bs Ps[k]) (by rw [size_bs]; omega) 61 wx hx)
      rw [us_bs] at HCT
      have HRk := Lib.hid (fun n v a b ha hb => HRS.out L k hlt n v a b ha hb HP.out)
      obtain ⟨X, hX⟩ : ∃ X, X = bs Ps[k] := ⟨_, rfl⟩
      rw [← hX] at x0 HCT
      obtain ⟨q, hq⟩ : ∃ q, q = cutb 61 Ps[k] := ⟨_, rfl⟩
      rw [← hq] at HCT hcl HRk
      clear hX hq hc1 HP
      obtain ⟨n0, v0, has⟩ := q
      dsimp only at HCT hcl HRk
      have HP1 := Lib.hid (fun wx => plain_c (bs n0) K (by rw [size_bs]; omega) wx)
      have HP2 := Lib.hid (fun wx => plain_c (bs v0) K (by rw [size_bs]; omega) wx)
      rw [us_bs] at HP1 HP2
      have HRk' := Lib.hid (HRk.out (optB (writtenS n0 (us K))).1 (optB (writtenS v0 (us K))).1 (optB (writtenS n0 (us K))).2 (optB (writtenS v0 (us K))).2 (by rfl) (by rfl))
      have hl1 := optB_len n0 (us K)
      have hl2 := optB_len v0 (us K)
      obtain ⟨a, ha⟩ : ∃ a, a = optB (writtenS n0 (us K)) := ⟨_, rfl⟩
      obtain ⟨c, hc⟩ : ∃ a, a = optB (writtenS v0 (us K)) := ⟨_, rfl⟩
      rw [← ha] at HP1 HRk' hl1
      rw [← hc] at HP2 HRk' hl2
      clear ha hc HRk
      obtain ⟨n, a⟩ := a
      obtain ⟨v, c⟩ := c
      dsimp only at HP1 HP2 HRk' hl1 hl2
      have hcs := HRk'.out
      have HO := Lib.hid hown
      have HB := Lib.hid hB
      have k0 : (0 : Int) ≤ (k : Int) := by omega
      have k1 : (k : Int) < (Ps.length : Int) := by omega
      obtain ⟨N, hN⟩ : ∃ N, N = bs n := ⟨_, rfl⟩
      obtain ⟨V, hV⟩ : ∃ V, V = bs v := ⟨_, rfl⟩
      rw [← hN] at HP1
      rw [← hV] at HP2
      have HNu := Lib.hid (show us N = n by rw [hN, us_bs])
      have HVu := Lib.hid (show us V = v by rw [hV, us_bs])
      clear hN hV hown hB hb1 HRk'
      rcases hcs with ⟨rfl, hR0⟩ | ⟨rfl, rfl, hR0⟩ | ⟨rfl, rfl, hst⟩
      iterate 2
        · have HE := Lib.hid hR0
          clear hR0
          go_wp2_with (first | (go_at_call 25; refine (HCT.out _ (HMr.out)).mono ?_; rintro e w1 ⟨rfl, hD⟩; have hb1 := HB.out.trans (hD.below (B := w.heap.size)); have ho1 := HO.out.below (hD.below (B := wr.heap.size)) (Nat.le_refl _)) | (go_at_call 28; (first | ((with_reducible refine (HP1.out _).mono ?_); rintro e w2 ⟨rfl, hC2⟩) | ((with_reducible refine (HP2.out _).mono ?_); rintro e w2 ⟨rfl, hC2⟩)); have ho1 := ho1.below hC2 (Nat.le_refl _); have hb1 := hb1.trans (hC2.mono hb1.size)))
          go_ret2
          exact ⟨_, by rw [HE.out]; rfl, .inl ⟨⟨_, _, rfl⟩, by rw [HE.out]⟩, Fresh.nil _ _ _, hb1⟩
      · have HE := Lib.hid hst
        clear hst
        go_wp2_with (first | (go_at_call 25; refine (HCT.out _ (HMr.out)).mono ?_; rintro e w1 ⟨rfl, hD⟩; have hb1 := HB.out.trans (hD.below (B := w.heap.size)); have ho1 := HO.out.below (hD.below (B := wr.heap.size)) (Nat.le_refl _)) | (go_at_call 28; (first | ((with_reducible refine (HP1.out _).mono ?_); rintro e w2 ⟨rfl, hC2⟩) | ((with_reducible refine (HP2.out _).mono ?_); rintro e w2 ⟨rfl, hC2⟩)); have ho1 := ho1.below hC2 (Nat.le_refl _); have hb1 := hb1.trans (hC2.mono hb1.size)) | (at_builtin; refine wpList_appP1 ⟨n, v, has⟩ HNu.out HVu.out rfl rfl rfl Tryd.underlying56 infoP rfl rfl ho1 hb1 (Nat.le_refl _) ?_ ?_; (focus (have := HLk.out; omega)); intro v' w' hown2 hb2))
        go_roundw
        case rel => exact ⟨k + 1, _, by omega, Lib.hid (by rw [List.length_append, HLk.out]; rfl), by go_num, hown2, hb2, HE⟩
        case measure => simp [intOf]; omega
    · have HE := Lib.hid (HRE.out L k (by omega) HP.out)
      clear HP
      go_wp2
      go_ret2
      exact ⟨_, by rw [HE.out]; rfl, by rw [HE.out]; exact hown.read, hown.fresh, hB⟩

set_option maxHeartbeats 1600000 in
theorem pair_c (p : Prm) (K : ByteArray) (hn : p.name.length ≤ 4294967280) (hv : p.value.length ≤ 4294967280) (hK : K.size ≤ 4294967280) (w : World) :
    Calls Tryd.prog 50 #[pv p, .string K] w fun e w' => e = .returned (.string (bs (pairS p (us K)))) ∧ Below w.heap.size w w' := by
  obtain ⟨n, v, h⟩ := p
  dsimp only at hn hv
  have HE1 := Lib.hid (fun wx => escape_c (bs n) K (by rw [size_bs]; omega) (by omega) wx)
  have HE2 := Lib.hid (fun wx => escape_c (bs v) K (by rw [size_bs]; omega) (by omega) wx)
  have l1 := escape_le n (us K)
  have l2 := escape_le v (us K)
  rw [us_bs] at HE1 HE2
  have hpt : pairS ⟨n, v, h⟩ (us K) = escape n (us K) ++ (if h = true then 61 :: escape v (us K) else []) := rfl
  obtain ⟨R, hR⟩ : ∃ R, R = pairS ⟨n, v, h⟩ (us K) := ⟨_, rfl⟩
  rw [← hR] at hpt ⊢
  obtain ⟨X, hX⟩ : ∃ X, X = bs (escape n (us K)) := ⟨_, rfl⟩
  obtain ⟨Y, hY⟩ : ∃ Y, Y = bs (escape v (us K)) := ⟨_, rfl⟩
  rw [← hX] at HE1
  rw [← hY] at HE2
  have uX : escape n (us K) = us X := by rw [hX, us_bs]
  have uY : escape v (us K) = us Y := by rw [hY, us_bs]
  rw [uX, uY] at hpt
  rw [uX, length_us] at l1
  rw [uY, length_us] at l2
  unfold pv sv
  dsimp only
  obtain ⟨N, hN⟩ : ∃ N, N = bs n := ⟨_, rfl⟩
  obtain ⟨V, hV⟩ : ∃ V, V = bs v := ⟨_, rfl⟩
  rw [← hN] at HE1 ⊢
  rw [← hV] at HE2 ⊢
  have sX : X.size ≤ 12884901840 := by omega
  have sY : Y.size ≤ 12884901840 := by omega
  clear hR hX hY uX uY hN hV l1 l2 hn hv
  have hZ : Below w.heap.size w (w.alloc (.cells #[.string N, .string V, .bool h] 90)) := (Below.refl _ _).alloc (Nat.le_refl _) _
  have bm := Blk.new w 90 #[.string N, .string V, .bool h]
  obtain ⟨w0, hw0⟩ : ∃ w0, w0 = w.alloc (.cells #[.string N, .string V, .bool h] 90) := ⟨_, rfl⟩
  rw [← hw0] at hZ bm
  have HW0 := Lib.hid hw0
  clear hw0
  cases h
  · rw [if_neg (by decide), List.append_nil] at hpt
    have HPT := Lib.hid hpt
    clear hpt
    go_enter Tryd.func50, Tryd.ntmps50
    go_wp2_with (first | (go_at_call 49; (try rw [← HW0.out]); (first | ((with_reducible refine (HE1.out _).mono ?_); rintro e w1 ⟨rfl, hC1⟩) | ((with_reducible refine (HE2.out _).mono ?_); rintro e w1 ⟨rfl, hC1⟩)); have bm := bm.call hC1; obtain ⟨p0, p1, p2, _, _, _, _⟩ := bm.f3; have hZ := hZ.trans (hC1.mono hZ.size)))
    go_ret
    exact ⟨ret_bs (by rw [HPT.out]), hZ⟩
  · rw [if_pos rfl] at hpt
    have HPT := Lib.hid hpt
    clear hpt
    go_enter Tryd.func50, Tryd.ntmps50
    go_wp2_with (first | (go_at_call 49; (try rw [← HW0.out]); (first | ((with_reducible refine (HE1.out _).mono ?_); rintro e w1 ⟨rfl, hC1⟩) | ((with_reducible refine (HE2.out _).mono ?_); rintro e w1 ⟨rfl, hC1⟩)); have bm := bm.call hC1; obtain ⟨p0, p1, p2, _, _, _, _⟩ := bm.f3; have hZ := hZ.trans (hC1.mono hZ.size)))
    go_ret
    exact ⟨ret_bs (by rw [HPT.out]; simp [us]), hZ⟩

end Go.Proofs.YtbljmjbialinkaaDoor
