/-
  head.State.
  head.State, the walk.
  rosterref08.State, the walk.
-/
import Derived.Test.YteiafgoigfehgaaDoorEvt
import Derived.Test.YteiafgoigfehgaaDoorHed
import Derived.Test.YteiafgoigfehgaaDoorPrm
namespace Go.Proofs.YteiafgoigfehgaaDoor

section
open Go.RowKit

def sReason : List UInt8 := [114, 101, 97, 115, 111, 110]
def sExpires : List UInt8 := [101, 120, 112, 105, 114, 101, 115]
/-- a state, out of the pieces of a text -/
def stOf (ok : Bool) (lo r : List UInt8) (t : List UInt8 × Bool) : (List UInt8 × Int × List UInt8) × Int :=
  if ok = false then (([], 0, []), 82) else if r ≠ [] ∧ token r = false then (([], 0, []), 82) else if t.2 = false then ((lo, -1, r), 0) else if (timeS t.1).2 ≠ 0 then (([], 0, []), 82) else ((lo, (timeS t.1).1, r), 0)
def stS (l : List UInt8) : (List UInt8 × Int × List UInt8) × Int := stOf (okP l) (lowr (nameP l)) (value (fieldsP l).1 sReason).1 (value (fieldsP l).1 sExpires)
def stV (p : List UInt8 × Int × List UInt8) : Value := .agg #[.string (bs p.1), .int .i64 p.2.1, .string (bs p.2.2)]
def StPost (l : List UInt8) (w : World) (e : Ending) (w' : World) : Prop := e = .returned (.tuple #[stV (stS l).1, .int .i64 (stS l).2]) ∧ Below w.heap.size w w'

/-- the ways through head.State -/
theorem st_cases (ok : Bool) (lo : List UInt8) (R : ByteArray) (t : List UInt8 × Bool) :
    (ok = false ∧ stOf ok lo (us R) t = (([], 0, []), 82)) ∨
    (ok = true ∧ ¬ R.size = 0 ∧ token (us R) = false ∧ stOf ok lo (us R) t = (([], 0, []), 82)) ∨
    (ok = true ∧ (R.size = 0 ∨ (¬ R.size = 0 ∧ token (us R) = true)) ∧
      ((t.2 = false ∧ stOf ok lo (us R) t = ((lo, -1, us R), 0)) ∨ (t.2 = true ∧ ((timeS t.1).2 != 0) = true ∧ stOf ok lo (us R) t = (([], 0, []), 82)) ∨ (t.2 = true ∧ ((timeS t.1).2 != 0) = false ∧ stOf ok lo (us R) t = ((lo, (timeS t.1).1, us R), 0)))) := by
  have hn : us R = [] ↔ R.size = 0 := by rw [← length_us, List.length_eq_zero_iff]
  cases ok
  · exact .inl ⟨rfl, by unfold stOf; rw [if_pos rfl]⟩
  refine .inr ?_
  by_cases hb : us R ≠ [] ∧ token (us R) = false
  · exact .inl ⟨rfl, fun e => hb.1 (hn.2 e), hb.2, by unfold stOf; rw [if_neg (by decide), if_pos hb]⟩
  refine .inr ⟨rfl, ?_, ?_⟩
  · by_cases hz : R.size = 0
    · exact .inl hz
    · refine .inr ⟨hz, ?_⟩
      cases h : token (us R)
      · exact absurd ⟨fun e => hz (hn.1 e), h⟩ hb
      · rfl
  · unfold stOf
    rw [if_neg (by decide), if_neg hb]
    cases h2 : t.2
    · exact .inl ⟨rfl, if_pos rfl⟩
    · refine .inr ?_
      rw [if_neg (by decide)]
      cases hq : ((timeS t.1).2 != 0)
      · exact .inr ⟨rfl, rfl, if_neg (by simpa using hq)⟩
      · exact .inl ⟨rfl, rfl, if_pos (by simpa using hq)⟩
theorem value_len (L : List Prm) (name : List UInt8) (B : Nat) (h : ∀ p ∈ L, p.value.length ≤ B) : (value L name).1.length ≤ B := by
  rcases place_value name L 0 with ⟨_, h2⟩ | ⟨j, hj, _, h2⟩
  · rw [show value L name = _ from h2]; exact Nat.zero_le _
  · rw [show value L name = _ from h2]; exact h _ (List.getElem_mem hj)
theorem fieldsGo_bd : ∀ (Ps : List (List UInt8)) (L M : List Prm), (∀ p ∈ L, p.name.length ≤ 64 ∧ p.value.length ≤ 64) → fieldsGo L Ps = some M → ∀ p ∈ M, p.name.length ≤ 64 ∧ p.value.length ≤ 64
  | [], L, M, hL, h => by rw [fieldsGo] at h; injection h with h; rw [← h]; exact hL
  | x :: r, L, M, hL, h => by
    rw [fieldsGo] at h
    cases hf : field L x with
    | none => rw [hf] at h; cases h
    | some q =>
      rw [hf] at h
      refine fieldsGo_bd r (L ++ [q]) M ?_ h
      intro p hp
      rcases List.mem_append.1 hp with h' | h'
      · exact hL p h'
      · rw [List.mem_singleton.1 h']
        unfold field fieldOf at hf
        split at hf
        · split at hf
          · have := chk_len hf; rw [this.1]; exact this.2
          · cases hf
        · split at hf
          · cases hf
          · have := chk_len hf; rw [this.1]; exact this.2
theorem fieldsS_bd (Ps : List (List UInt8)) : ∀ p ∈ (fieldsS Ps).1, p.name.length ≤ 64 ∧ p.value.length ≤ 64 := by
  unfold fieldsS
  split
  · intro p hp; cases hp
  · cases h : fieldsGo [] Ps with
    | none => intro p hp; cases hp
    | some M => exact fieldsGo_bd Ps [] M (fun p hp => by cases hp) h
theorem nameP_le (l : List UInt8) : (nameP l).length ≤ l.length := by
  unfold nameP
  refine Nat.le_trans (trim_le _) ?_
  refine parts_bd 59 l _ ?_
  have := parts_ne 59 l
  cases h : parts l 59 with
  | nil => exact absurd h this
  | cons x r => simp
end

section
open Go.RowKit

set_option maxRecDepth 100000 in
set_option maxHeartbeats 3200000 in
theorem state_c (s : ByteArray) (hs : s.size ≤ 4294967280) (w : World) (hm : Ml w) :
    Calls Tryd.prog 18 #[.string s] w (StPost (us s) w) := by
  have HM := Lib.hid hm
  clear hm
  have HH := Lib.hid (fun wx hx => fieldsH_c s hs wx hx)
  have HLo := Lib.hid (fun wx => lowerP_c (bs (nameP (us s))) (by rw [size_bs]; have := nameP_le (us s); rw [length_us] at this; omega) wx)
  rw [us_bs] at HLo
  have hbd := fieldsS_bd (parts (us s) 59).tail
  have HV1 := Lib.hid (fun wx v hx => value_c v (fieldsP (us s)).1 ⟨#[114, 101, 97, 115, 111, 110]⟩ (by decide) wx hx (fun p hp => by have := (hbd p hp).1; omega))
  have HV2 := Lib.hid (fun wx v hx => value_c v (fieldsP (us s)).1 ⟨#[101, 120, 112, 105, 114, 101, 115]⟩ (by decide) wx hx (fun p hp => by have := (hbd p hp).1; omega))
  rw [show us ⟨#[114, 101, 97, 115, 111, 110]⟩ = sReason from rfl] at HV1
  rw [show us ⟨#[101, 120, 112, 105, 114, 101, 115]⟩ = sExpires from rfl] at HV2
  have hr1 := value_len (fieldsP (us s)).1 sReason 64 (fun p hp => (hbd p hp).2)
  have hr2 := value_len (fieldsP (us s)).1 sExpires 64 (fun p hp => (hbd p hp).2)
  have hst : stS (us s) = stOf (okP (us s)) (lowr (nameP (us s))) (us (bs (value (fieldsP (us s)).1 sReason).1)) (value (fieldsP (us s)).1 sExpires) := by rw [us_bs]; rfl
  obtain ⟨ok, hok⟩ : ∃ ok, ok = okP (us s) := ⟨_, rfl⟩
  rw [← hok] at HH hst
  obtain ⟨lo, hlo⟩ : ∃ lo, lo = lowr (nameP (us s)) := ⟨_, rfl⟩
  rw [← hlo] at HLo hst
  obtain ⟨N, hN⟩ : ∃ N, N = nameP (us s) := ⟨_, rfl⟩
  rw [← hN] at HH HLo
  clear hok hlo hN hbd
  obtain ⟨F, hF⟩ : ∃ F, F = (fieldsP (us s)).1 := ⟨_, rfl⟩
  rw [← hF] at HH HV1 HV2 hr1 hr2 hst
  clear hF
  obtain ⟨p1, hp1⟩ : ∃ p1, p1 = value F sReason := ⟨_, rfl⟩
  rw [← hp1] at HV1 hr1 hst
  obtain ⟨p2, hp2⟩ : ∃ p2, p2 = value F sExpires := ⟨_, rfl⟩
  rw [← hp2] at HV2 hr2 hst
  clear hp1 hp2
  obtain ⟨r1, b1⟩ := p1
  obtain ⟨t2, told⟩ := p2
  dsimp only at HV1 HV2 hr1 hr2 hst
  obtain ⟨R, hR⟩ : ∃ R, R = bs r1 := ⟨_, rfl⟩
  have hRs : R.size ≤ 64 := by rw [hR, size_bs]; exact hr1
  rw [← hR] at HV1 hst
  clear hR hr1
  have hTs : (bs t2).size ≤ 64 := by rw [size_bs]; exact hr2
  have HTK := Lib.hid (fun wx => token_c R (by omega) wx)
  have HTM := Lib.hid (fun wx => time_c (bs t2) (by omega) wx)
  rw [us_bs] at HTM
  have hC := st_cases ok lo R (t2, told)
  rw [← hst] at hC
  dsimp only at hC
  obtain ⟨tm, htm⟩ : ∃ tm, tm = timeS t2 := ⟨_, rfl⟩
  rw [← htm] at HTM hC
  clear hst htm hr2 hTs
  obtain ⟨tn, te⟩ := tm
  dsimp only at HTM hC
  rcases hC with ⟨rfl, hE⟩ | ⟨rfl, hz, htk, hE⟩ | ⟨rfl, hz, hC⟩
  · have HE := Lib.hid hE
    clear hE
    go_enter Tryd.func18, Tryd.ntmps18
    go_wp2_with (first | (go_at_call 47; refine (HH.out _ (HM.out.below ((Below.refl _ _).alloc (Nat.le_refl _) _))).mono ?_; rintro e w1 ⟨u, rfl, hu, hF0, hC⟩; obtain ⟨B1, hB1, hz1⟩ := newCall hC; obtain ⟨a0, a1, a2, f0, f1, f2, _⟩ := B1.f3; clear hC hF0; have HU := Lib.hid hu; obtain ⟨ao, cp, rfl, hml, hcl⟩ := hu.form; clear hu hcl; have HB1 := Lib.hid B1; clear B1) | (go_at_call 36; refine (HLo.out _).mono ?_; rintro e w2 ⟨rfl, hC2⟩; have HU2 := Lib.hid (HU.out.below hC2 (Nat.le_refl _)); have B2 := HB1.out.call hC2; obtain ⟨a0', a1', a2', f0', f1', f2', hz2⟩ := B2.f3; have HB2 := Lib.hid B2; clear B2; have hB2 := hB1.trans (hC2.mono (Nat.le_of_lt hz1)); clear hC2))
    refine bodyPost_ret (v := .tuple #[.agg #[.string ⟨#[]⟩, .int .i64 0, .string ⟨#[]⟩], .int .i64 82]) (by simp [results, Tryd.results18, go_sem, a0', a1', a2', hz2]) rfl ?_
    exact ⟨by rw [HE.out]; rfl, (by repeat (first | exact hB2 | (refine Below.alloc ?_ (by first | (simp; omega) | simp) _) | (refine Below.setCell ?_ (by first | exact Nat.le_refl _ | exact Nat.le_of_lt hz2) _)))⟩
  · have HE := Lib.hid hE
    clear hE
    rw [htk] at HTK
    have pE := ne_empty hz
    have pF := isEmpty_f hz
    clear htk
    go_enter Tryd.func18, Tryd.ntmps18
    go_wp2_with (first | (go_at_call 47; refine (HH.out _ (HM.out.below ((Below.refl _ _).alloc (Nat.le_refl _) _))).mono ?_; rintro e w1 ⟨u, rfl, hu, hF0, hC⟩; obtain ⟨B1, hB1, hz1⟩ := newCall hC; obtain ⟨a0, a1, a2, f0, f1, f2, _⟩ := B1.f3; clear hC hF0; have HU := Lib.hid hu; obtain ⟨ao, cp, rfl, hml, hcl⟩ := hu.form; clear hu hcl; have HB1 := Lib.hid B1; clear B1) | (go_at_call 36; refine (HLo.out _).mono ?_; rintro e w2 ⟨rfl, hC2⟩; have HU2 := Lib.hid (HU.out.below hC2 (Nat.le_refl _)); have B2 := HB1.out.call hC2; obtain ⟨a0', a1', a2', f0', f1', f2', hz2⟩ := B2.f3; have HB2 := Lib.hid B2; clear B2; have hB2 := hB1.trans (hC2.mono (Nat.le_of_lt hz1)); clear hC2) | (go_at_call 48; ((with_reducible refine (HV1.out _ _ (HU2.out.below ((Below.refl _ _).alloc (Nat.le_refl _) _) (Nat.le_refl _))).mono ?_); rintro e w3 ⟨rfl, hC3⟩); have HU3 := Lib.hid (HU2.out.below (((Below.refl _ _).alloc (Nat.le_refl _) _).trans (hC3.mono (by rw [World.size_alloc]; omega))) (Nat.le_refl _)); obtain ⟨B3, hB3', hz3⟩ := newCall hC3; have C3 := HB2.out.below hB3' hz2; obtain ⟨d0, d1, d2, e0, e1, e2, _⟩ := C3.f3; obtain ⟨b0, b1, b2, g0, g1, g2, _⟩ := B3.f3; have HB3 := Lib.hid B3; have HC3 := Lib.hid C3; clear B3 C3 hC3; have hB3 := hB2.trans (hB3'.mono (Nat.le_of_lt hz2)); have hz13 : w.heap.size < w3.heap.size := Nat.lt_trans hz2 hz3; have hne : ¬ (w2.heap.size = w.heap.size) := Nat.ne_of_gt hz2) | (go_at_call 40; refine (HTK.out _).mono ?_; rintro e wx ⟨rfl, rfl⟩))
    refine bodyPost_ret (v := .tuple #[.agg #[.string ⟨#[]⟩, .int .i64 0, .string ⟨#[]⟩], .int .i64 82]) (by simp [results, Tryd.results18, go_sem, d0, d1, d2]) rfl ?_
    exact ⟨by rw [HE.out]; rfl, (by repeat (first | exact hB3 | (refine Below.alloc ?_ (by first | (simp; omega) | simp) _) | (refine Below.setCell ?_ (by first | exact Nat.le_refl _ | exact Nat.le_of_lt hz2) _)))⟩
  · rcases hz with hz | ⟨hz, htk⟩
    · obtain rfl := eq_empty hz
      clear hz
      rcases hC with ⟨rfl, hE⟩ | ⟨rfl, hte, hE⟩ | ⟨rfl, hte, hE⟩
      all_goals
        have HE := Lib.hid hE
        clear hE
      · go_enter Tryd.func18, Tryd.ntmps18
        go_wp2_with (first | (go_at_call 47; refine (HH.out _ (HM.out.below ((Below.refl _ _).alloc (Nat.le_refl _) _))).mono ?_; rintro e w1 ⟨u, rfl, hu, hF0, hC⟩; obtain ⟨B1, hB1, hz1⟩ := newCall hC; obtain ⟨a0, a1, a2, f0, f1, f2, _⟩ := B1.f3; clear hC hF0; have HU := Lib.hid hu; obtain ⟨ao, cp, rfl, hml, hcl⟩ := hu.form; clear hu hcl; have HB1 := Lib.hid B1; clear B1) | (go_at_call 36; refine (HLo.out _).mono ?_; rintro e w2 ⟨rfl, hC2⟩; have HU2 := Lib.hid (HU.out.below hC2 (Nat.le_refl _)); have B2 := HB1.out.call hC2; obtain ⟨a0', a1', a2', f0', f1', f2', hz2⟩ := B2.f3; have HB2 := Lib.hid B2; clear B2; have hB2 := hB1.trans (hC2.mono (Nat.le_of_lt hz1)); clear hC2) | (go_at_call 48; ((with_reducible refine (HV1.out _ _ (HU2.out.below ((Below.refl _ _).alloc (Nat.le_refl _) _) (Nat.le_refl _))).mono ?_); rintro e w3 ⟨rfl, hC3⟩); have HU3 := Lib.hid (HU2.out.below (((Below.refl _ _).alloc (Nat.le_refl _) _).trans (hC3.mono (by rw [World.size_alloc]; omega))) (Nat.le_refl _)); obtain ⟨B3, hB3', hz3⟩ := newCall hC3; have C3 := HB2.out.below hB3' hz2; obtain ⟨d0, d1, d2, e0, e1, e2, _⟩ := C3.f3; obtain ⟨b0, b1, b2, g0, g1, g2, _⟩ := B3.f3; have HB3 := Lib.hid B3; have HC3 := Lib.hid C3; clear B3 C3 hC3; have hB3 := hB2.trans (hB3'.mono (Nat.le_of_lt hz2)); have hz13 : w.heap.size < w3.heap.size := Nat.lt_trans hz2 hz3; have hne : ¬ (w2.heap.size = w.heap.size) := Nat.ne_of_gt hz2) | (go_at_call 48; ((with_reducible refine (HV2.out _ _ (HU2.out.below (hB3'.setCell (Nat.le_refl _) _) (Nat.le_refl _))).mono ?_); rintro e w4 ⟨rfl, hC4⟩); have C4 : Blk w4 w.heap.size 34 #[.string ⟨#[]⟩, .int .i64 0, .string ⟨#[]⟩] := (HC3.out.far (Nat.ne_of_lt hz2) _).call hC4; have B4 : Blk w4 w2.heap.size 34 #[.string (bs lo), .int .i64 (-1), .string ByteArray.empty] := (HB3.out.set_ 2 _).call hC4; obtain ⟨d0', d1', d2', e0', e1', e2', hz14⟩ := C4.f3; obtain ⟨b0', b1', b2', g0', g1', g2', hz24⟩ := B4.f3; have hB4 := hB3.trans (setCall hC4 (Nat.le_of_lt hz2) (Nat.le_of_lt hz13)).1; clear C4 B4 hC4))
        refine bodyPost_ret (v := .tuple #[.agg #[.string (bs lo), .int .i64 (-1), .string ByteArray.empty], .int .i64 0]) (by simp [results, Tryd.results18, go_sem, d0', d1', d2']) rfl ?_
        exact ⟨by rw [HE.out]; first | rfl | (unfold stV; simp), (by repeat (first | exact hB4 | (refine Below.alloc ?_ (by first | (simp; omega) | simp) _) | (refine Below.setCell ?_ (by first | exact Nat.le_refl _ | exact Nat.le_of_lt hz2) _)))⟩
      · go_enter Tryd.func18, Tryd.ntmps18
        go_wp2_with (first | (go_at_call 47; refine (HH.out _ (HM.out.below ((Below.refl _ _).alloc (Nat.le_refl _) _))).mono ?_; rintro e w1 ⟨u, rfl, hu, hF0, hC⟩; obtain ⟨B1, hB1, hz1⟩ := newCall hC; obtain ⟨a0, a1, a2, f0, f1, f2, _⟩ := B1.f3; clear hC hF0; have HU := Lib.hid hu; obtain ⟨ao, cp, rfl, hml, hcl⟩ := hu.form; clear hu hcl; have HB1 := Lib.hid B1; clear B1) | (go_at_call 36; refine (HLo.out _).mono ?_; rintro e w2 ⟨rfl, hC2⟩; have HU2 := Lib.hid (HU.out.below hC2 (Nat.le_refl _)); have B2 := HB1.out.call hC2; obtain ⟨a0', a1', a2', f0', f1', f2', hz2⟩ := B2.f3; have HB2 := Lib.hid B2; clear B2; have hB2 := hB1.trans (hC2.mono (Nat.le_of_lt hz1)); clear hC2) | (go_at_call 48; ((with_reducible refine (HV1.out _ _ (HU2.out.below ((Below.refl _ _).alloc (Nat.le_refl _) _) (Nat.le_refl _))).mono ?_); rintro e w3 ⟨rfl, hC3⟩); have HU3 := Lib.hid (HU2.out.below (((Below.refl _ _).alloc (Nat.le_refl _) _).trans (hC3.mono (by rw [World.size_alloc]; omega))) (Nat.le_refl _)); obtain ⟨B3, hB3', hz3⟩ := newCall hC3; have C3 := HB2.out.below hB3' hz2; obtain ⟨d0, d1, d2, e0, e1, e2, _⟩ := C3.f3; obtain ⟨b0, b1, b2, g0, g1, g2, _⟩ := B3.f3; have HB3 := Lib.hid B3; have HC3 := Lib.hid C3; clear B3 C3 hC3; have hB3 := hB2.trans (hB3'.mono (Nat.le_of_lt hz2)); have hz13 : w.heap.size < w3.heap.size := Nat.lt_trans hz2 hz3; have hne : ¬ (w2.heap.size = w.heap.size) := Nat.ne_of_gt hz2) | (go_at_call 48; ((with_reducible refine (HV2.out _ _ (HU2.out.below (hB3'.setCell (Nat.le_refl _) _) (Nat.le_refl _))).mono ?_); rintro e w4 ⟨rfl, hC4⟩); have C4 : Blk w4 w.heap.size 34 #[.string ⟨#[]⟩, .int .i64 0, .string ⟨#[]⟩] := (HC3.out.far (Nat.ne_of_lt hz2) _).call hC4; have B4 : Blk w4 w2.heap.size 34 #[.string (bs lo), .int .i64 (-1), .string ByteArray.empty] := (HB3.out.set_ 2 _).call hC4; obtain ⟨d0', d1', d2', e0', e1', e2', hz14⟩ := C4.f3; obtain ⟨b0', b1', b2', g0', g1', g2', hz24⟩ := B4.f3; have hB4 := hB3.trans (setCall hC4 (Nat.le_of_lt hz2) (Nat.le_of_lt hz13)).1; clear C4 B4 hC4) | (go_at_call 16; refine (HTM.out _).mono ?_; rintro e wx ⟨rfl, rfl⟩))
        refine bodyPost_ret (v := .tuple #[.agg #[.string ⟨#[]⟩, .int .i64 0, .string ⟨#[]⟩], .int .i64 82]) (by simp [results, Tryd.results18, go_sem, d0', d1', d2']) rfl ?_
        exact ⟨by rw [HE.out]; rfl, (by repeat (first | exact hB4 | (refine Below.alloc ?_ (by first | (simp; omega) | simp) _) | (refine Below.setCell ?_ (by first | exact Nat.le_refl _ | exact Nat.le_of_lt hz2) _)))⟩
      · go_enter Tryd.func18, Tryd.ntmps18
        go_wp2_with (first | (go_at_call 47; refine (HH.out _ (HM.out.below ((Below.refl _ _).alloc (Nat.le_refl _) _))).mono ?_; rintro e w1 ⟨u, rfl, hu, hF0, hC⟩; obtain ⟨B1, hB1, hz1⟩ := newCall hC; obtain ⟨a0, a1, a2, f0, f1, f2, _⟩ := B1.f3; clear hC hF0; have HU := Lib.hid hu; obtain ⟨ao, cp, rfl, hml, hcl⟩ := hu.form; clear hu hcl; have HB1 := Lib.hid B1; clear B1) | (go_at_call 36; refine (HLo.out _).mono ?_; rintro e w2 ⟨rfl, hC2⟩; have HU2 := Lib.hid (HU.out.below hC2 (Nat.le_refl _)); have B2 := HB1.out.call hC2; obtain ⟨a0', a1', a2', f0', f1', f2', hz2⟩ := B2.f3; have HB2 := Lib.hid B2; clear B2; have hB2 := hB1.trans (hC2.mono (Nat.le_of_lt hz1)); clear hC2) | (go_at_call 48; ((with_reducible refine (HV1.out _ _ (HU2.out.below ((Below.refl _ _).alloc (Nat.le_refl _) _) (Nat.le_refl _))).mono ?_); rintro e w3 ⟨rfl, hC3⟩); have HU3 := Lib.hid (HU2.out.below (((Below.refl _ _).alloc (Nat.le_refl _) _).trans (hC3.mono (by rw [World.size_alloc]; omega))) (Nat.le_refl _)); obtain ⟨B3, hB3', hz3⟩ := newCall hC3; have C3 := HB2.out.below hB3' hz2; obtain ⟨d0, d1, d2, e0, e1, e2, _⟩ := C3.f3; obtain ⟨b0, b1, b2, g0, g1, g2, _⟩ := B3.f3; have HB3 := Lib.hid B3; have HC3 := Lib.hid C3; clear B3 C3 hC3; have hB3 := hB2.trans (hB3'.mono (Nat.le_of_lt hz2)); have hz13 : w.heap.size < w3.heap.size := Nat.lt_trans hz2 hz3; have hne : ¬ (w2.heap.size = w.heap.size) := Nat.ne_of_gt hz2) | (go_at_call 48; ((with_reducible refine (HV2.out _ _ (HU2.out.below (hB3'.setCell (Nat.le_refl _) _) (Nat.le_refl _))).mono ?_); rintro e w4 ⟨rfl, hC4⟩); have C4 : Blk w4 w.heap.size 34 #[.string ⟨#[]⟩, .int .i64 0, .string ⟨#[]⟩] := (HC3.out.far (Nat.ne_of_lt hz2) _).call hC4; have B4 : Blk w4 w2.heap.size 34 #[.string (bs lo), .int .i64 (-1), .string ByteArray.empty] := (HB3.out.set_ 2 _).call hC4; obtain ⟨d0', d1', d2', e0', e1', e2', hz14⟩ := C4.f3; obtain ⟨b0', b1', b2', g0', g1', g2', hz24⟩ := B4.f3; have hB4 := hB3.trans (setCall hC4 (Nat.le_of_lt hz2) (Nat.le_of_lt hz13)).1; clear C4 B4 hC4) | (go_at_call 16; refine (HTM.out _).mono ?_; rintro e wx ⟨rfl, rfl⟩))
        refine bodyPost_ret (v := .tuple #[.agg #[.string (bs lo), .int .i64 tn, .string ByteArray.empty], .int .i64 0]) (by simp [results, Tryd.results18, go_sem, d0', d1', d2']) rfl ?_
        exact ⟨by rw [HE.out]; first | rfl | (unfold stV; simp), (by repeat (first | exact hB4 | (refine Below.alloc ?_ (by first | (simp; omega) | simp) _) | (refine Below.setCell ?_ (by first | exact Nat.le_refl _ | exact Nat.le_of_lt hz2) _)))⟩
    · have pE := ne_empty hz
      have pF := isEmpty_f hz
      rw [htk] at HTK
      clear htk
      rcases hC with ⟨rfl, hE⟩ | ⟨rfl, hte, hE⟩ | ⟨rfl, hte, hE⟩
      all_goals
        have HE := Lib.hid hE
        clear hE
      · go_enter Tryd.func18, Tryd.ntmps18
        go_wp2_with (first | (go_at_call 47; refine (HH.out _ (HM.out.below ((Below.refl _ _).alloc (Nat.le_refl _) _))).mono ?_; rintro e w1 ⟨u, rfl, hu, hF0, hC⟩; obtain ⟨B1, hB1, hz1⟩ := newCall hC; obtain ⟨a0, a1, a2, f0, f1, f2, _⟩ := B1.f3; clear hC hF0; have HU := Lib.hid hu; obtain ⟨ao, cp, rfl, hml, hcl⟩ := hu.form; clear hu hcl; have HB1 := Lib.hid B1; clear B1) | (go_at_call 36; refine (HLo.out _).mono ?_; rintro e w2 ⟨rfl, hC2⟩; have HU2 := Lib.hid (HU.out.below hC2 (Nat.le_refl _)); have B2 := HB1.out.call hC2; obtain ⟨a0', a1', a2', f0', f1', f2', hz2⟩ := B2.f3; have HB2 := Lib.hid B2; clear B2; have hB2 := hB1.trans (hC2.mono (Nat.le_of_lt hz1)); clear hC2) | (go_at_call 48; ((with_reducible refine (HV1.out _ _ (HU2.out.below ((Below.refl _ _).alloc (Nat.le_refl _) _) (Nat.le_refl _))).mono ?_); rintro e w3 ⟨rfl, hC3⟩); have HU3 := Lib.hid (HU2.out.below (((Below.refl _ _).alloc (Nat.le_refl _) _).trans (hC3.mono (by rw [World.size_alloc]; omega))) (Nat.le_refl _)); obtain ⟨B3, hB3', hz3⟩ := newCall hC3; have C3 := HB2.out.below hB3' hz2; obtain ⟨d0, d1, d2, e0, e1, e2, _⟩ := C3.f3; obtain ⟨b0, b1, b2, g0, g1, g2, _⟩ := B3.f3; have HB3 := Lib.hid B3; have HC3 := Lib.hid C3; clear B3 C3 hC3; have hB3 := hB2.trans (hB3'.mono (Nat.le_of_lt hz2)); have hz13 : w.heap.size < w3.heap.size := Nat.lt_trans hz2 hz3; have hne : ¬ (w2.heap.size = w.heap.size) := Nat.ne_of_gt hz2) | (go_at_call 48; ((with_reducible refine (HV2.out _ _ (HU2.out.below (hB3'.setCell (Nat.le_refl _) _) (Nat.le_refl _))).mono ?_); rintro e w4 ⟨rfl, hC4⟩); have C4 : Blk w4 w.heap.size 34 #[.string ⟨#[]⟩, .int .i64 0, .string ⟨#[]⟩] := (HC3.out.far (Nat.ne_of_lt hz2) _).call hC4; have B4 : Blk w4 w2.heap.size 34 #[.string (bs lo), .int .i64 (-1), .string R] := (HB3.out.set_ 2 _).call hC4; obtain ⟨d0', d1', d2', e0', e1', e2', hz14⟩ := C4.f3; obtain ⟨b0', b1', b2', g0', g1', g2', hz24⟩ := B4.f3; have hB4 := hB3.trans (setCall hC4 (Nat.le_of_lt hz2) (Nat.le_of_lt hz13)).1; clear C4 B4 hC4) | (go_at_call 40; refine (HTK.out _).mono ?_; rintro e wx ⟨rfl, rfl⟩))
        refine bodyPost_ret (v := .tuple #[.agg #[.string (bs lo), .int .i64 (-1), .string R], .int .i64 0]) (by simp [results, Tryd.results18, go_sem, d0', d1', d2']) rfl ?_
        exact ⟨by rw [HE.out]; first | rfl | (unfold stV; simp), (by repeat (first | exact hB4 | (refine Below.alloc ?_ (by first | (simp; omega) | simp) _) | (refine Below.setCell ?_ (by first | exact Nat.le_refl _ | exact Nat.le_of_lt hz2) _)))⟩
      · go_enter Tryd.func18, Tryd.ntmps18
        go_wp2_with (first | (go_at_call 47; refine (HH.out _ (HM.out.below ((Below.refl _ _).alloc (Nat.le_refl _) _))).mono ?_; rintro e w1 ⟨u, rfl, hu, hF0, hC⟩; obtain ⟨B1, hB1, hz1⟩ := newCall hC; obtain ⟨a0, a1, a2, f0, f1, f2, _⟩ := B1.f3; clear hC hF0; have HU := Lib.hid hu; obtain ⟨ao, cp, rfl, hml, hcl⟩ := hu.form; clear hu hcl; have HB1 := Lib.hid B1; clear B1) | (go_at_call 36; refine (HLo.out _).mono ?_; rintro e w2 ⟨rfl, hC2⟩; have HU2 := Lib.hid (HU.out.below hC2 (Nat.le_refl _)); have B2 := HB1.out.call hC2; obtain ⟨a0', a1', a2', f0', f1', f2', hz2⟩ := B2.f3; have HB2 := Lib.hid B2; clear B2; have hB2 := hB1.trans (hC2.mono (Nat.le_of_lt hz1)); clear hC2) | (go_at_call 48; ((with_reducible refine (HV1.out _ _ (HU2.out.below ((Below.refl _ _).alloc (Nat.le_refl _) _) (Nat.le_refl _))).mono ?_); rintro e w3 ⟨rfl, hC3⟩); have HU3 := Lib.hid (HU2.out.below (((Below.refl _ _).alloc (Nat.le_refl _) _).trans (hC3.mono (by rw [World.size_alloc]; omega))) (Nat.le_refl _)); obtain ⟨B3, hB3', hz3⟩ := newCall hC3; have C3 := HB2.out.below hB3' hz2; obtain ⟨d0, d1, d2, e0, e1, e2, _⟩ := C3.f3; obtain ⟨b0, b1, b2, g0, g1, g2, _⟩ := B3.f3; have HB3 := Lib.hid B3; have HC3 := Lib.hid C3; clear B3 C3 hC3; have hB3 := hB2.trans (hB3'.mono (Nat.le_of_lt hz2)); have hz13 : w.heap.size < w3.heap.size := Nat.lt_trans hz2 hz3; have hne : ¬ (w2.heap.size = w.heap.size) := Nat.ne_of_gt hz2) | (go_at_call 48; ((with_reducible refine (HV2.out _ _ (HU2.out.below (hB3'.setCell (Nat.le_refl _) _) (Nat.le_refl _))).mono ?_); rintro e w4 ⟨rfl, hC4⟩); have C4 : Blk w4 w.heap.size 34 #[.string ⟨#[]⟩, .int .i64 0, .string ⟨#[]⟩] := (HC3.out.far (Nat.ne_of_lt hz2) _).call hC4; have B4 : Blk w4 w2.heap.size 34 #[.string (bs lo), .int .i64 (-1), .string R] := (HB3.out.set_ 2 _).call hC4; obtain ⟨d0', d1', d2', e0', e1', e2', hz14⟩ := C4.f3; obtain ⟨b0', b1', b2', g0', g1', g2', hz24⟩ := B4.f3; have hB4 := hB3.trans (setCall hC4 (Nat.le_of_lt hz2) (Nat.le_of_lt hz13)).1; clear C4 B4 hC4) | (go_at_call 40; refine (HTK.out _).mono ?_; rintro e wx ⟨rfl, rfl⟩) | (go_at_call 16; refine (HTM.out _).mono ?_; rintro e wx ⟨rfl, rfl⟩))
        refine bodyPost_ret (v := .tuple #[.agg #[.string ⟨#[]⟩, .int .i64 0, .string ⟨#[]⟩], .int .i64 82]) (by simp [results, Tryd.results18, go_sem, d0', d1', d2']) rfl ?_
        exact ⟨by rw [HE.out]; rfl, (by repeat (first | exact hB4 | (refine Below.alloc ?_ (by first | (simp; omega) | simp) _) | (refine Below.setCell ?_ (by first | exact Nat.le_refl _ | exact Nat.le_of_lt hz2) _)))⟩
      · go_enter Tryd.func18, Tryd.ntmps18
        go_wp2_with (first | (go_at_call 47; refine (HH.out _ (HM.out.below ((Below.refl _ _).alloc (Nat.le_refl _) _))).mono ?_; rintro e w1 ⟨u, rfl, hu, hF0, hC⟩; obtain ⟨B1, hB1, hz1⟩ := newCall hC; obtain ⟨a0, a1, a2, f0, f1, f2, _⟩ := B1.f3; clear hC hF0; have HU := Lib.hid hu; obtain ⟨ao, cp, rfl, hml, hcl⟩ := hu.form; clear hu hcl; have HB1 := Lib.hid B1; clear B1) | (go_at_call 36; refine (HLo.out _).mono ?_; rintro e w2 ⟨rfl, hC2⟩; have HU2 := Lib.hid (HU.out.below hC2 (Nat.le_refl _)); have B2 := HB1.out.call hC2; obtain ⟨a0', a1', a2', f0', f1', f2', hz2⟩ := B2.f3; have HB2 := Lib.hid B2; clear B2; have hB2 := hB1.trans (hC2.mono (Nat.le_of_lt hz1)); clear hC2) | (go_at_call 48; ((with_reducible refine (HV1.out _ _ (HU2.out.below ((Below.refl _ _).alloc (Nat.le_refl _) _) (Nat.le_refl _))).mono ?_); rintro e w3 ⟨rfl, hC3⟩); have HU3 := Lib.hid (HU2.out.below (((Below.refl _ _).alloc (Nat.le_refl _) _).trans (hC3.mono (by rw [World.size_alloc]; omega))) (Nat.le_refl _)); obtain ⟨B3, hB3', hz3⟩ := newCall hC3; have C3 := HB2.out.below hB3' hz2; obtain ⟨d0, d1, d2, e0, e1, e2, _⟩ := C3.f3; obtain ⟨b0, b1, b2, g0, g1, g2, _⟩ := B3.f3; have HB3 := Lib.hid B3; have HC3 := Lib.hid C3; clear B3 C3 hC3; have hB3 := hB2.trans (hB3'.mono (Nat.le_of_lt hz2)); have hz13 : w.heap.size < w3.heap.size := Nat.lt_trans hz2 hz3; have hne : ¬ (w2.heap.size = w.heap.size) := Nat.ne_of_gt hz2) | (go_at_call 48; ((with_reducible refine (HV2.out _ _ (HU2.out.below (hB3'.setCell (Nat.le_refl _) _) (Nat.le_refl _))).mono ?_); rintro e w4 ⟨rfl, hC4⟩); have C4 : Blk w4 w.heap.size 34 #[.string ⟨#[]⟩, .int .i64 0, .string ⟨#[]⟩] := (HC3.out.far (Nat.ne_of_lt hz2) _).call hC4; have B4 : Blk w4 w2.heap.size 34 #[.string (bs lo), .int .i64 (-1), .string R] := (HB3.out.set_ 2 _).call hC4; obtain ⟨d0', d1', d2', e0', e1', e2', hz14⟩ := C4.f3; obtain ⟨b0', b1', b2', g0', g1', g2', hz24⟩ := B4.f3; have hB4 := hB3.trans (setCall hC4 (Nat.le_of_lt hz2) (Nat.le_of_lt hz13)).1; clear C4 B4 hC4) | (go_at_call 40; refine (HTK.out _).mono ?_; rintro e wx ⟨rfl, rfl⟩) | (go_at_call 16; refine (HTM.out _).mono ?_; rintro e wx ⟨rfl, rfl⟩))
        refine bodyPost_ret (v := .tuple #[.agg #[.string (bs lo), .int .i64 tn, .string R], .int .i64 0]) (by simp [results, Tryd.results18, go_sem, d0', d1', d2']) rfl ?_
        exact ⟨by rw [HE.out]; first | rfl | (unfold stV; simp), (by repeat (first | exact hB4 | (refine Below.alloc ?_ (by first | (simp; omega) | simp) _) | (refine Below.setCell ?_ (by first | exact Nat.le_refl _ | exact Nat.le_of_lt hz2) _)))⟩
end

section
open Go.RowKit

set_option maxRecDepth 100000 in
set_option maxHeartbeats 3200000 in
theorem stateR_c (s : ByteArray) (hs : s.size ≤ 4294967280) (w : World) :
    Calls Tryd.prog 19 #[.string s] w (StPost (us s) w) := by
  have HH := Lib.hid (fun wx => eventR_c s hs wx)
  unfold EvPost at HH
  have hev1 := evS_yes (us s)
  have hev0 := evS_no (us s)
  have HLo := Lib.hid (fun wx => lowerR_c (bs (nameP (us s))) (by rw [size_bs]; have := nameP_le (us s); rw [length_us] at this; omega) wx)
  rw [us_bs] at HLo
  have hbd := fieldsS_bd (parts (us s) 59).tail
  have HV1 := Lib.hid (fun wx v hx => valueR_c v (fieldsP (us s)).1 ⟨#[114, 101, 97, 115, 111, 110]⟩ (by decide) wx hx (fun p hp => by have := (hbd p hp).1; omega))
  have HV2 := Lib.hid (fun wx v hx => valueR_c v (fieldsP (us s)).1 ⟨#[101, 120, 112, 105, 114, 101, 115]⟩ (by decide) wx hx (fun p hp => by have := (hbd p hp).1; omega))
  rw [show us ⟨#[114, 101, 97, 115, 111, 110]⟩ = sReason from rfl] at HV1
  rw [show us ⟨#[101, 120, 112, 105, 114, 101, 115]⟩ = sExpires from rfl] at HV2
  have hr1 := value_len (fieldsP (us s)).1 sReason 64 (fun p hp => (hbd p hp).2)
  have hr2 := value_len (fieldsP (us s)).1 sExpires 64 (fun p hp => (hbd p hp).2)
  have hst : stS (us s) = stOf (okP (us s)) (lowr (nameP (us s))) (us (bs (value (fieldsP (us s)).1 sReason).1)) (value (fieldsP (us s)).1 sExpires) := by rw [us_bs]; rfl
  obtain ⟨ev, hev⟩ : ∃ ev, ev = evS (us s) := ⟨_, rfl⟩
  rw [← hev] at HH hev1 hev0
  obtain ⟨ok, hok⟩ : ∃ ok, ok = okP (us s) := ⟨_, rfl⟩
  rw [← hok] at hst hev1 hev0
  obtain ⟨lo, hlo⟩ : ∃ lo, lo = lowr (nameP (us s)) := ⟨_, rfl⟩
  rw [← hlo] at HLo hst
  obtain ⟨N, hN⟩ : ∃ N, N = nameP (us s) := ⟨_, rfl⟩
  rw [← hN] at HLo hev1
  clear hok hlo hN hbd hev
  obtain ⟨F, hF⟩ : ∃ F, F = (fieldsP (us s)).1 := ⟨_, rfl⟩
  rw [← hF] at HV1 HV2 hr1 hr2 hst hev1
  clear hF
  obtain ⟨p1, hp1⟩ : ∃ p1, p1 = value F sReason := ⟨_, rfl⟩
  rw [← hp1] at HV1 hr1 hst
  obtain ⟨p2, hp2⟩ : ∃ p2, p2 = value F sExpires := ⟨_, rfl⟩
  rw [← hp2] at HV2 hr2 hst
  clear hp1 hp2
  obtain ⟨r1, b1⟩ := p1
  obtain ⟨t2, told⟩ := p2
  dsimp only at HV1 HV2 hr1 hr2 hst
  obtain ⟨R, hR⟩ : ∃ R, R = bs r1 := ⟨_, rfl⟩
  have hRs : R.size ≤ 64 := by rw [hR, size_bs]; exact hr1
  rw [← hR] at HV1 hst
  clear hR hr1
  have hTs : (bs t2).size ≤ 64 := by rw [size_bs]; exact hr2
  have HTK := Lib.hid (fun wx => tokenR_c R (by omega) wx)
  have HTM := Lib.hid (fun wx => timeR_c (bs t2) (by omega) wx)
  rw [us_bs] at HTM
  have hC := st_cases ok lo R (t2, told)
  rw [← hst] at hC
  dsimp only at hC
  obtain ⟨tm, htm⟩ : ∃ tm, tm = timeS t2 := ⟨_, rfl⟩
  rw [← htm] at HTM hC
  clear hst htm hr2 hTs
  obtain ⟨tn, te⟩ := tm
  dsimp only at HTM hC
  rcases hC with ⟨rfl, hE⟩ | ⟨rfl, hz, htk, hE⟩ | ⟨rfl, hz, hC⟩
  · have HE := Lib.hid hE
    clear hE
    rw [hev0 rfl] at HH
    dsimp only at HH
    clear hev0 hev1
    go_enter Tryd.func19, Tryd.ntmps19
    go_wp2_with (go_at_call 30; refine (HH.out _).mono ?_; rintro e w1 ⟨u, rfl, hu, hF0, hC⟩; obtain ⟨B1, hB1, hz1⟩ := newCall hC; obtain ⟨a0, a1, a2, f0, f1, f2, _⟩ := B1.f3; clear hC hF0; have HU := Lib.hid hu; obtain ⟨ao, cp, rfl, hml, hcl⟩ := hu.form; clear hu hcl; have HB1 := Lib.hid B1; clear B1)
    refine bodyPost_ret (v := .tuple #[.agg #[.string ⟨#[]⟩, .int .i64 0, .string ⟨#[]⟩], .int .i64 82]) (by simp [results, Tryd.results19, go_sem, a0, a1, a2, hz1]) rfl ?_
    exact ⟨by rw [HE.out]; rfl, (by repeat (first | exact hB1 | (refine Below.alloc ?_ (by first | (simp; omega) | simp) _) | (refine Below.setCell ?_ (by first | exact Nat.le_refl _ | (simp; omega) | simp) _)))⟩
  · have HE := Lib.hid hE
    clear hE
    rw [hev1 rfl] at HH
    dsimp only at HH
    clear hev0 hev1
    rw [htk] at HTK
    have pE := ne_empty hz
    have pF := isEmpty_f hz
    clear htk
    go_enter Tryd.func19, Tryd.ntmps19
    go_wp2_with (first | (go_at_call 30; refine (HH.out _).mono ?_; rintro e w1 ⟨u, rfl, hu, hF0, hC⟩; obtain ⟨B1, hB1, hz1⟩ := newCall hC; obtain ⟨a0, a1, a2, f0, f1, f2, _⟩ := B1.f3; clear hC hF0; have HU := Lib.hid hu; obtain ⟨ao, cp, rfl, hml, hcl⟩ := hu.form; clear hu hcl; have HB1 := Lib.hid B1; clear B1) | (go_at_call 49; ((with_reducible refine (HV1.out _ _ (HU.out.below ((Below.refl _ _).alloc (Nat.le_refl _) _) (Nat.le_refl _))).mono ?_); rintro e w2 ⟨rfl, hC2⟩); obtain ⟨D2, hB2', hz2⟩ := newCall hC2; have C2 := HB1.out.call hB2'; have HU2 := Lib.hid (HU.out.below hB2' (Nat.le_refl _)); obtain ⟨d0, d1, d2, e0, e1, e2, hz12⟩ := C2.f3; obtain ⟨n0, n1, _, _, hzn⟩ := D2.f2; have HC2 := Lib.hid C2; have HD2 := Lib.hid D2; have hB2 := hB1.trans (hB2'.mono (Nat.le_of_lt hz1)); clear C2 D2 hC2) | (go_at_call 45; refine (HTK.out _).mono ?_; rintro e wx ⟨rfl, rfl⟩))
    refine bodyPost_ret (v := .tuple #[.agg #[.string ⟨#[]⟩, .int .i64 0, .string ⟨#[]⟩], .int .i64 82]) (by simp [results, Tryd.results19, go_sem, d0, d1, d2]) rfl ?_
    exact ⟨by rw [HE.out]; rfl, (by repeat (first | exact hB2 | (refine Below.alloc ?_ (by first | (simp; omega) | simp) _) | (refine Below.setCell ?_ (by first | exact Nat.le_refl _ | (simp; omega) | simp) _)))⟩
  · rw [hev1 rfl] at HH
    dsimp only at HH
    clear hev0 hev1
    rcases hz with hz | ⟨hz, htk⟩
    · obtain rfl := eq_empty hz
      clear hz
      rcases hC with ⟨rfl, hE⟩ | ⟨rfl, hte, hE⟩ | ⟨rfl, hte, hE⟩
      all_goals
        have HE := Lib.hid hE
        clear hE
      · go_enter Tryd.func19, Tryd.ntmps19
        go_wp2_with (first | (go_at_call 30; refine (HH.out _).mono ?_; rintro e w1 ⟨u, rfl, hu, hF0, hC⟩; obtain ⟨B1, hB1, hz1⟩ := newCall hC; obtain ⟨a0, a1, a2, f0, f1, f2, _⟩ := B1.f3; clear hC hF0; have HU := Lib.hid hu; obtain ⟨ao, cp, rfl, hml, hcl⟩ := hu.form; clear hu hcl; have HB1 := Lib.hid B1; clear B1) | (go_at_call 49; ((with_reducible refine (HV1.out _ _ (HU.out.below ((Below.refl _ _).alloc (Nat.le_refl _) _) (Nat.le_refl _))).mono ?_); rintro e w2 ⟨rfl, hC2⟩); obtain ⟨D2, hB2', hz2⟩ := newCall hC2; have C2 := HB1.out.call hB2'; have HU2 := Lib.hid (HU.out.below hB2' (Nat.le_refl _)); obtain ⟨d0, d1, d2, e0, e1, e2, hz12⟩ := C2.f3; obtain ⟨n0, n1, _, _, hzn⟩ := D2.f2; have HC2 := Lib.hid C2; have HD2 := Lib.hid D2; have hB2 := hB1.trans (hB2'.mono (Nat.le_of_lt hz1)); clear C2 D2 hC2) | (go_at_call 41; refine (HLo.out _).mono ?_; rintro e w3 ⟨rfl, hC3⟩; have C3 := HC2.out.call hC3; have D3 := HD2.out.call hC3; have HU3 := Lib.hid (HU2.out.below hC3 (Nat.le_refl _)); obtain ⟨d0', d1', d2', e0', e1', e2', hz13⟩ := C3.f3; obtain ⟨n0', n1', _, _, hzn'⟩ := D3.f2; have HC3 := Lib.hid C3; clear C3 D3; have hB3 := hB2.trans (hC3.mono hB2.size); clear hC3) | (go_at_call 49; ((with_reducible refine (HV2.out _ _ (HU3.out.below ((Below.refl _ _).alloc (Nat.le_refl _) _) (Nat.le_refl _))).mono ?_); rintro e w4 ⟨rfl, hC4⟩); obtain ⟨B4, hB4', hz34⟩ := newCall hC4; have C4 := HC3.out.call hB4'; obtain ⟨b0, b1, b2, g0, g1, g2, _⟩ := B4.f3; obtain ⟨d0'', d1'', d2'', e0'', e1'', e2'', hz14⟩ := C4.f3; have hB4 := hB3.trans (hB4'.mono hB3.size); have hne : ¬ (w3.heap.size = w.heap.size) := (by omega); clear C4 B4 hC4 hB4'))
        refine bodyPost_ret (v := .tuple #[.agg #[.string (bs lo), .int .i64 (-1), .string ByteArray.empty], .int .i64 0]) (by simp [results, Tryd.results19, go_sem, d0'', d1'', d2'']) rfl ?_
        exact ⟨by rw [HE.out]; first | rfl | (unfold stV; simp), (by repeat (first | exact hB4 | (refine Below.alloc ?_ (by first | (simp; omega) | simp) _) | (refine Below.setCell ?_ (by first | exact Nat.le_refl _ | (simp; omega) | simp) _)))⟩
      · go_enter Tryd.func19, Tryd.ntmps19
        go_wp2_with (first | (go_at_call 30; refine (HH.out _).mono ?_; rintro e w1 ⟨u, rfl, hu, hF0, hC⟩; obtain ⟨B1, hB1, hz1⟩ := newCall hC; obtain ⟨a0, a1, a2, f0, f1, f2, _⟩ := B1.f3; clear hC hF0; have HU := Lib.hid hu; obtain ⟨ao, cp, rfl, hml, hcl⟩ := hu.form; clear hu hcl; have HB1 := Lib.hid B1; clear B1) | (go_at_call 49; ((with_reducible refine (HV1.out _ _ (HU.out.below ((Below.refl _ _).alloc (Nat.le_refl _) _) (Nat.le_refl _))).mono ?_); rintro e w2 ⟨rfl, hC2⟩); obtain ⟨D2, hB2', hz2⟩ := newCall hC2; have C2 := HB1.out.call hB2'; have HU2 := Lib.hid (HU.out.below hB2' (Nat.le_refl _)); obtain ⟨d0, d1, d2, e0, e1, e2, hz12⟩ := C2.f3; obtain ⟨n0, n1, _, _, hzn⟩ := D2.f2; have HC2 := Lib.hid C2; have HD2 := Lib.hid D2; have hB2 := hB1.trans (hB2'.mono (Nat.le_of_lt hz1)); clear C2 D2 hC2) | (go_at_call 41; refine (HLo.out _).mono ?_; rintro e w3 ⟨rfl, hC3⟩; have C3 := HC2.out.call hC3; have D3 := HD2.out.call hC3; have HU3 := Lib.hid (HU2.out.below hC3 (Nat.le_refl _)); obtain ⟨d0', d1', d2', e0', e1', e2', hz13⟩ := C3.f3; obtain ⟨n0', n1', _, _, hzn'⟩ := D3.f2; have HC3 := Lib.hid C3; clear C3 D3; have hB3 := hB2.trans (hC3.mono hB2.size); clear hC3) | (go_at_call 49; ((with_reducible refine (HV2.out _ _ (HU3.out.below ((Below.refl _ _).alloc (Nat.le_refl _) _) (Nat.le_refl _))).mono ?_); rintro e w4 ⟨rfl, hC4⟩); obtain ⟨B4, hB4', hz34⟩ := newCall hC4; have C4 := HC3.out.call hB4'; obtain ⟨b0, b1, b2, g0, g1, g2, _⟩ := B4.f3; obtain ⟨d0'', d1'', d2'', e0'', e1'', e2'', hz14⟩ := C4.f3; have hB4 := hB3.trans (hB4'.mono hB3.size); have hne : ¬ (w3.heap.size = w.heap.size) := (by omega); clear C4 B4 hC4 hB4') | (go_at_call 26; refine (HTM.out _).mono ?_; rintro e wx ⟨rfl, rfl⟩))
        refine bodyPost_ret (v := .tuple #[.agg #[.string ⟨#[]⟩, .int .i64 0, .string ⟨#[]⟩], .int .i64 82]) (by simp [results, Tryd.results19, go_sem, d0'', d1'', d2'']) rfl ?_
        exact ⟨by rw [HE.out]; rfl, (by repeat (first | exact hB4 | (refine Below.alloc ?_ (by first | (simp; omega) | simp) _) | (refine Below.setCell ?_ (by first | exact Nat.le_refl _ | (simp; omega) | simp) _)))⟩
      · go_enter Tryd.func19, Tryd.ntmps19
        go_wp2_with (first | (go_at_call 30; refine (HH.out _).mono ?_; rintro e w1 ⟨u, rfl, hu, hF0, hC⟩; obtain ⟨B1, hB1, hz1⟩ := newCall hC; obtain ⟨a0, a1, a2, f0, f1, f2, _⟩ := B1.f3; clear hC hF0; have HU := Lib.hid hu; obtain ⟨ao, cp, rfl, hml, hcl⟩ := hu.form; clear hu hcl; have HB1 := Lib.hid B1; clear B1) | (go_at_call 49; ((with_reducible refine (HV1.out _ _ (HU.out.below ((Below.refl _ _).alloc (Nat.le_refl _) _) (Nat.le_refl _))).mono ?_); rintro e w2 ⟨rfl, hC2⟩); obtain ⟨D2, hB2', hz2⟩ := newCall hC2; have C2 := HB1.out.call hB2'; have HU2 := Lib.hid (HU.out.below hB2' (Nat.le_refl _)); obtain ⟨d0, d1, d2, e0, e1, e2, hz12⟩ := C2.f3; obtain ⟨n0, n1, _, _, hzn⟩ := D2.f2; have HC2 := Lib.hid C2; have HD2 := Lib.hid D2; have hB2 := hB1.trans (hB2'.mono (Nat.le_of_lt hz1)); clear C2 D2 hC2) | (go_at_call 41; refine (HLo.out _).mono ?_; rintro e w3 ⟨rfl, hC3⟩; have C3 := HC2.out.call hC3; have D3 := HD2.out.call hC3; have HU3 := Lib.hid (HU2.out.below hC3 (Nat.le_refl _)); obtain ⟨d0', d1', d2', e0', e1', e2', hz13⟩ := C3.f3; obtain ⟨n0', n1', _, _, hzn'⟩ := D3.f2; have HC3 := Lib.hid C3; clear C3 D3; have hB3 := hB2.trans (hC3.mono hB2.size); clear hC3) | (go_at_call 49; ((with_reducible refine (HV2.out _ _ (HU3.out.below ((Below.refl _ _).alloc (Nat.le_refl _) _) (Nat.le_refl _))).mono ?_); rintro e w4 ⟨rfl, hC4⟩); obtain ⟨B4, hB4', hz34⟩ := newCall hC4; have C4 := HC3.out.call hB4'; obtain ⟨b0, b1, b2, g0, g1, g2, _⟩ := B4.f3; obtain ⟨d0'', d1'', d2'', e0'', e1'', e2'', hz14⟩ := C4.f3; have hB4 := hB3.trans (hB4'.mono hB3.size); have hne : ¬ (w3.heap.size = w.heap.size) := (by omega); clear C4 B4 hC4 hB4') | (go_at_call 26; refine (HTM.out _).mono ?_; rintro e wx ⟨rfl, rfl⟩))
        refine bodyPost_ret (v := .tuple #[.agg #[.string (bs lo), .int .i64 tn, .string ByteArray.empty], .int .i64 0]) (by simp [results, Tryd.results19, go_sem, d0'', d1'', d2'']) rfl ?_
        exact ⟨by rw [HE.out]; first | rfl | (unfold stV; simp), (by repeat (first | exact hB4 | (refine Below.alloc ?_ (by first | (simp; omega) | simp) _) | (refine Below.setCell ?_ (by first | exact Nat.le_refl _ | (simp; omega) | simp) _)))⟩
    · have pE := ne_empty hz
      have pF := isEmpty_f hz
      rw [htk] at HTK
      clear htk
      rcases hC with ⟨rfl, hE⟩ | ⟨rfl, hte, hE⟩ | ⟨rfl, hte, hE⟩
      all_goals
        have HE := Lib.hid hE
        clear hE
      · go_enter Tryd.func19, Tryd.ntmps19
        go_wp2_with (first | (go_at_call 30; refine (HH.out _).mono ?_; rintro e w1 ⟨u, rfl, hu, hF0, hC⟩; obtain ⟨B1, hB1, hz1⟩ := newCall hC; obtain ⟨a0, a1, a2, f0, f1, f2, _⟩ := B1.f3; clear hC hF0; have HU := Lib.hid hu; obtain ⟨ao, cp, rfl, hml, hcl⟩ := hu.form; clear hu hcl; have HB1 := Lib.hid B1; clear B1) | (go_at_call 49; ((with_reducible refine (HV1.out _ _ (HU.out.below ((Below.refl _ _).alloc (Nat.le_refl _) _) (Nat.le_refl _))).mono ?_); rintro e w2 ⟨rfl, hC2⟩); obtain ⟨D2, hB2', hz2⟩ := newCall hC2; have C2 := HB1.out.call hB2'; have HU2 := Lib.hid (HU.out.below hB2' (Nat.le_refl _)); obtain ⟨d0, d1, d2, e0, e1, e2, hz12⟩ := C2.f3; obtain ⟨n0, n1, _, _, hzn⟩ := D2.f2; have HC2 := Lib.hid C2; have HD2 := Lib.hid D2; have hB2 := hB1.trans (hB2'.mono (Nat.le_of_lt hz1)); clear C2 D2 hC2) | (go_at_call 41; refine (HLo.out _).mono ?_; rintro e w3 ⟨rfl, hC3⟩; have C3 := HC2.out.call hC3; have D3 := HD2.out.call hC3; have HU3 := Lib.hid (HU2.out.below hC3 (Nat.le_refl _)); obtain ⟨d0', d1', d2', e0', e1', e2', hz13⟩ := C3.f3; obtain ⟨n0', n1', _, _, hzn'⟩ := D3.f2; have HC3 := Lib.hid C3; clear C3 D3; have hB3 := hB2.trans (hC3.mono hB2.size); clear hC3) | (go_at_call 49; ((with_reducible refine (HV2.out _ _ (HU3.out.below ((Below.refl _ _).alloc (Nat.le_refl _) _) (Nat.le_refl _))).mono ?_); rintro e w4 ⟨rfl, hC4⟩); obtain ⟨B4, hB4', hz34⟩ := newCall hC4; have C4 := HC3.out.call hB4'; obtain ⟨b0, b1, b2, g0, g1, g2, _⟩ := B4.f3; obtain ⟨d0'', d1'', d2'', e0'', e1'', e2'', hz14⟩ := C4.f3; have hB4 := hB3.trans (hB4'.mono hB3.size); have hne : ¬ (w3.heap.size = w.heap.size) := (by omega); clear C4 B4 hC4 hB4') | (go_at_call 45; refine (HTK.out _).mono ?_; rintro e wx ⟨rfl, rfl⟩))
        refine bodyPost_ret (v := .tuple #[.agg #[.string (bs lo), .int .i64 (-1), .string R], .int .i64 0]) (by simp [results, Tryd.results19, go_sem, d0'', d1'', d2'']) rfl ?_
        exact ⟨by rw [HE.out]; first | rfl | (unfold stV; simp), (by repeat (first | exact hB4 | (refine Below.alloc ?_ (by first | (simp; omega) | simp) _) | (refine Below.setCell ?_ (by first | exact Nat.le_refl _ | (simp; omega) | simp) _)))⟩
      · go_enter Tryd.func19, Tryd.ntmps19
        go_wp2_with (first | (go_at_call 30; refine (HH.out _).mono ?_; rintro e w1 ⟨u, rfl, hu, hF0, hC⟩; obtain ⟨B1, hB1, hz1⟩ := newCall hC; obtain ⟨a0, a1, a2, f0, f1, f2, _⟩ := B1.f3; clear hC hF0; have HU := Lib.hid hu; obtain ⟨ao, cp, rfl, hml, hcl⟩ := hu.form; clear hu hcl; have HB1 := Lib.hid B1; clear B1) | (go_at_call 49; ((with_reducible refine (HV1.out _ _ (HU.out.below ((Below.refl _ _).alloc (Nat.le_refl _) _) (Nat.le_refl _))).mono ?_); rintro e w2 ⟨rfl, hC2⟩); obtain ⟨D2, hB2', hz2⟩ := newCall hC2; have C2 := HB1.out.call hB2'; have HU2 := Lib.hid (HU.out.below hB2' (Nat.le_refl _)); obtain ⟨d0, d1, d2, e0, e1, e2, hz12⟩ := C2.f3; obtain ⟨n0, n1, _, _, hzn⟩ := D2.f2; have HC2 := Lib.hid C2; have HD2 := Lib.hid D2; have hB2 := hB1.trans (hB2'.mono (Nat.le_of_lt hz1)); clear C2 D2 hC2) | (go_at_call 41; refine (HLo.out _).mono ?_; rintro e w3 ⟨rfl, hC3⟩; have C3 := HC2.out.call hC3; have D3 := HD2.out.call hC3; have HU3 := Lib.hid (HU2.out.below hC3 (Nat.le_refl _)); obtain ⟨d0', d1', d2', e0', e1', e2', hz13⟩ := C3.f3; obtain ⟨n0', n1', _, _, hzn'⟩ := D3.f2; have HC3 := Lib.hid C3; clear C3 D3; have hB3 := hB2.trans (hC3.mono hB2.size); clear hC3) | (go_at_call 49; ((with_reducible refine (HV2.out _ _ (HU3.out.below ((Below.refl _ _).alloc (Nat.le_refl _) _) (Nat.le_refl _))).mono ?_); rintro e w4 ⟨rfl, hC4⟩); obtain ⟨B4, hB4', hz34⟩ := newCall hC4; have C4 := HC3.out.call hB4'; obtain ⟨b0, b1, b2, g0, g1, g2, _⟩ := B4.f3; obtain ⟨d0'', d1'', d2'', e0'', e1'', e2'', hz14⟩ := C4.f3; have hB4 := hB3.trans (hB4'.mono hB3.size); have hne : ¬ (w3.heap.size = w.heap.size) := (by omega); clear C4 B4 hC4 hB4') | (go_at_call 45; refine (HTK.out _).mono ?_; rintro e wx ⟨rfl, rfl⟩) | (go_at_call 26; refine (HTM.out _).mono ?_; rintro e wx ⟨rfl, rfl⟩))
        refine bodyPost_ret (v := .tuple #[.agg #[.string ⟨#[]⟩, .int .i64 0, .string ⟨#[]⟩], .int .i64 82]) (by simp [results, Tryd.results19, go_sem, d0'', d1'', d2'']) rfl ?_
        exact ⟨by rw [HE.out]; rfl, (by repeat (first | exact hB4 | (refine Below.alloc ?_ (by first | (simp; omega) | simp) _) | (refine Below.setCell ?_ (by first | exact Nat.le_refl _ | (simp; omega) | simp) _)))⟩
      · go_enter Tryd.func19, Tryd.ntmps19
        go_wp2_with (first | (go_at_call 30; refine (HH.out _).mono ?_; rintro e w1 ⟨u, rfl, hu, hF0, hC⟩; obtain ⟨B1, hB1, hz1⟩ := newCall hC; obtain ⟨a0, a1, a2, f0, f1, f2, _⟩ := B1.f3; clear hC hF0; have HU := Lib.hid hu; obtain ⟨ao, cp, rfl, hml, hcl⟩ := hu.form; clear hu hcl; have HB1 := Lib.hid B1; clear B1) | (go_at_call 49; ((with_reducible refine (HV1.out _ _ (HU.out.below ((Below.refl _ _).alloc (Nat.le_refl _) _) (Nat.le_refl _))).mono ?_); rintro e w2 ⟨rfl, hC2⟩); obtain ⟨D2, hB2', hz2⟩ := newCall hC2; have C2 := HB1.out.call hB2'; have HU2 := Lib.hid (HU.out.below hB2' (Nat.le_refl _)); obtain ⟨d0, d1, d2, e0, e1, e2, hz12⟩ := C2.f3; obtain ⟨n0, n1, _, _, hzn⟩ := D2.f2; have HC2 := Lib.hid C2; have HD2 := Lib.hid D2; have hB2 := hB1.trans (hB2'.mono (Nat.le_of_lt hz1)); clear C2 D2 hC2) | (go_at_call 41; refine (HLo.out _).mono ?_; rintro e w3 ⟨rfl, hC3⟩; have C3 := HC2.out.call hC3; have D3 := HD2.out.call hC3; have HU3 := Lib.hid (HU2.out.below hC3 (Nat.le_refl _)); obtain ⟨d0', d1', d2', e0', e1', e2', hz13⟩ := C3.f3; obtain ⟨n0', n1', _, _, hzn'⟩ := D3.f2; have HC3 := Lib.hid C3; clear C3 D3; have hB3 := hB2.trans (hC3.mono hB2.size); clear hC3) | (go_at_call 49; ((with_reducible refine (HV2.out _ _ (HU3.out.below ((Below.refl _ _).alloc (Nat.le_refl _) _) (Nat.le_refl _))).mono ?_); rintro e w4 ⟨rfl, hC4⟩); obtain ⟨B4, hB4', hz34⟩ := newCall hC4; have C4 := HC3.out.call hB4'; obtain ⟨b0, b1, b2, g0, g1, g2, _⟩ := B4.f3; obtain ⟨d0'', d1'', d2'', e0'', e1'', e2'', hz14⟩ := C4.f3; have hB4 := hB3.trans (hB4'.mono hB3.size); have hne : ¬ (w3.heap.size = w.heap.size) := (by omega); clear C4 B4 hC4 hB4') | (go_at_call 45; refine (HTK.out _).mono ?_; rintro e wx ⟨rfl, rfl⟩) | (go_at_call 26; refine (HTM.out _).mono ?_; rintro e wx ⟨rfl, rfl⟩))
        refine bodyPost_ret (v := .tuple #[.agg #[.string (bs lo), .int .i64 tn, .string R], .int .i64 0]) (by simp [results, Tryd.results19, go_sem, d0'', d1'', d2'']) rfl ?_
        exact ⟨by rw [HE.out]; first | rfl | (unfold stV; simp), (by repeat (first | exact hB4 | (refine Below.alloc ?_ (by first | (simp; omega) | simp) _) | (refine Below.setCell ?_ (by first | exact Nat.le_refl _ | (simp; omega) | simp) _)))⟩
end

end Go.Proofs.YteiafgoigfehgaaDoor
