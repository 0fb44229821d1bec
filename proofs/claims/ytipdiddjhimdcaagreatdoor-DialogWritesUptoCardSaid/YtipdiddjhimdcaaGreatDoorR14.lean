/- Contracts of Go functions, and plain laws. No condition but those told. -/
import Derived.Test.YtipdiddjhimdcaaGreatDoorR13
import Derived.Test.YtipdiddjhimdcaaGreatDoorR08
import Derived.Lib.QuietBelow
set_option linter.unusedSimpArgs false
set_option linter.unusedVariables false
set_option maxRecDepth 100000
namespace Go.Proofs.YtipdiddjhimdcaaGreatDoor
open Go.RowKit
def RAdrs (w : World) (v : Value) (L : List Adr) : Prop :=
 ((∃ ao cap, v = .slice ao 0 cap) ∧ L = []) ∨
 ∃ b off cap, v = .slice (some ⟨b, off, none⟩) L.length cap ∧ L.length ≤ cap ∧ cap ≤ maxLen ∧ b < w.heap.size ∧
  ∀ j (hj : j < L.length), w.cell? ⟨b, off + j * 8, none⟩ = some (sv L[j].disp) ∧ w.cell? ⟨b, off + j * 8 + 1, none⟩ = some (sv L[j].uri.scheme) ∧ w.cell? ⟨b, off + j * 8 + 2, none⟩ = some (sv L[j].uri.user) ∧ w.cell? ⟨b, off + j * 8 + 3, none⟩ = some (sv L[j].uri.host) ∧ w.cell? ⟨b, off + j * 8 + 4, none⟩ = some (.int .i64 L[j].uri.port) ∧ ∃ u1 u2 u3, w.cell? ⟨b, off + j * 8 + 5, none⟩ = some u1 ∧ w.cell? ⟨b, off + j * 8 + 6, none⟩ = some u2 ∧ w.cell? ⟨b, off + j * 8 + 7, none⟩ = some u3 ∧ RPrms w u1 L[j].uri.ps ∧ RPrms w u2 L[j].uri.hs ∧ RPrms w u3 L[j].ps
theorem RAdrs.below {w w' : World} {B : Nat} {v : Value} {L : List Adr} (h : RAdrs w v L) (hB : Below B w w') (hs : w.heap.size ≤ B) : RAdrs w' v L := by
 rcases h with h | ⟨b, off, cap, h1, h2, h2', h3, h4⟩
 ·exact .inl h
 ·refine .inr ⟨b, off, cap, h1, h2, h2', Nat.lt_of_lt_of_le h3 hB.size, fun j hj => ?_⟩
  obtain ⟨a0, a1, a2, a3, a4, u1, u2, u3, a5, a6, a7, k1, k2, k3⟩ := h4 j hj
  have hb : b < B := by omega
  rw [hB.cell (p := ⟨b, off + j * 8, none⟩) hb, hB.cell (p := ⟨b, off + j * 8 + 1, none⟩) hb, hB.cell (p := ⟨b, off + j * 8 + 2, none⟩) hb, hB.cell (p := ⟨b, off + j * 8 + 3, none⟩) hb, hB.cell (p := ⟨b, off + j * 8 + 4, none⟩) hb, hB.cell (p := ⟨b, off + j * 8 + 5, none⟩) hb, hB.cell (p := ⟨b, off + j * 8 + 6, none⟩) hb, hB.cell (p := ⟨b, off + j * 8 + 7, none⟩) hb]
  exact ⟨a0, a1, a2, a3, a4, u1, u2, u3, a5, a6, a7, k1.below hB hs, k2.below hB hs, k3.below hB hs⟩
theorem RAdrs.form {w : World} {v : Value} {L : List Adr} (h : RAdrs w v L) : ∃ ao cap, v = .slice ao L.length cap ∧ L.length ≤ maxLen ∧
  (0 < L.length → ∃ b off, ao = some ⟨b, off, none⟩ ∧ b < w.heap.size ∧ ∀ j (hj : j < L.length), w.cell? ⟨b, off + j * 8, none⟩ = some (sv L[j].disp) ∧ w.cell? ⟨b, off + j * 8 + 1, none⟩ = some (sv L[j].uri.scheme) ∧ w.cell? ⟨b, off + j * 8 + 2, none⟩ = some (sv L[j].uri.user) ∧ w.cell? ⟨b, off + j * 8 + 3, none⟩ = some (sv L[j].uri.host) ∧ w.cell? ⟨b, off + j * 8 + 4, none⟩ = some (.int .i64 L[j].uri.port) ∧ ∃ u1 u2 u3, w.cell? ⟨b, off + j * 8 + 5, none⟩ = some u1 ∧ w.cell? ⟨b, off + j * 8 + 6, none⟩ = some u2 ∧ w.cell? ⟨b, off + j * 8 + 7, none⟩ = some u3 ∧ RPrms w u1 L[j].uri.ps ∧ RPrms w u2 L[j].uri.hs ∧ RPrms w u3 L[j].ps) := by
 rcases h with ⟨⟨ao, cap, rfl⟩, rfl⟩ | ⟨b, off, cap, rfl, h2, h2', h3, h4⟩
 ·exact ⟨ao, cap, rfl, Nat.zero_le _, fun h => by simp at h⟩
 ·exact ⟨some ⟨b, off, none⟩, cap, rfl, Nat.le_trans h2 h2', fun _ => ⟨b, off, rfl, h3, h4⟩⟩
theorem RAdrs.nil (w : World) : RAdrs w (.slice none 0 0) [] := .inl ⟨⟨_, _, rfl⟩, rfl⟩
theorem cell_heapA {w w' : World} {b : Nat} (h : w'.heap[b]? = w.heap[b]?) (o : Nat) : w'.cell? ⟨b, o, none⟩ = w.cell? ⟨b, o, none⟩ := by
 unfold World.cell?; rw [h]
theorem RPrms.heapA {w w' : World} {u : Value} {L : List Prm} (h : RPrms w u L) (hs : w.heap.size ≤ w'.heap.size) (hb : L ≠ [] → ∀ a n c, u = .slice (some a) n c → a.block < w.heap.size → w'.heap[a.block]? = w.heap[a.block]?) : RPrms w' u L := by
 rcases h with h | ⟨b, off, cap, h1, h2, h2', h3, h4⟩
 ·exact .inl h
 ·by_cases hL : L = []
  ·subst hL
   exact .inl ⟨⟨_, _, h1⟩, rfl⟩
  ·refine .inr ⟨b, off, cap, h1, h2, h2', Nat.lt_of_lt_of_le h3 hs, fun j hj => ?_⟩
   have e := hb hL _ _ _ h1 h3
   rw [cell_heapA e, cell_heapA e, cell_heapA e]
   exact h4 j hj
abbrev AdrU := Adr × (Value × Value × Value)
def rowA (r : AdrU) : List Value := [sv r.1.disp, sv r.1.uri.scheme, sv r.1.uri.user, sv r.1.uri.host, .int .i64 r.1.uri.port, r.2.1, r.2.2.1, r.2.2.2]
def FreeA (v u : Value) (L : List Prm) : Prop := L ≠ [] → ∀ a n c, u = .slice (some a) n c → v.ownBlock ≠ some a.block
def AdrU.ok (w : World) (v : Value) (r : AdrU) : Prop := (RPrms w r.2.1 r.1.uri.ps ∧ RPrms w r.2.2.1 r.1.uri.hs ∧ RPrms w r.2.2.2 r.1.ps) ∧ FreeA v r.2.1 r.1.uri.ps ∧ FreeA v r.2.2.1 r.1.uri.hs ∧ FreeA v r.2.2.2 r.1.ps
def Adrs (w : World) (base : Nat) (v : Value) (R : List AdrU) : Prop :=
 w.ownsRow base 26 8 v R.length (R.flatMap rowA) ∧ ∀ r ∈ R, r.ok w v
theorem Adrs.nil (w : World) (base : Nat) : Adrs w base (.slice none 0 0) [] := ⟨World.ownsRow_nil w base _ 8, fun r hr => by cases hr⟩
theorem flat_atA : ∀ (L : List AdrU) (j : Nat) (hj : j < L.length) (i : Nat), i < 8 → (L.flatMap rowA)[j * 8 + i]? = (rowA L[j])[i]?
 | p :: r, 0, _, i, hi => by
  rw [List.flatMap_cons, Nat.zero_mul, Nat.zero_add, List.getElem?_append_left (by simpa [rowA] using hi)]; rfl
 | p :: r, j + 1, hj, i, hi => by
  rw [List.flatMap_cons, List.getElem?_append_right (by simp [rowA]; omega)]
  have : (j + 1) * 8 + i - (rowA p).length = j * 8 + i := by simp [rowA]; omega
  rw [this]
  exact flat_atA r j (by simpa using hj) i hi
theorem Adrs.read {w : World} {base : Nat} {v : Value} {R : List AdrU} (h : Adrs w base v R) : RAdrs w v (R.map Prod.fst) := by
 rcases RRow.of_own h.1 with ⟨h1, h2, _⟩ | ⟨b, off, cap, h1, h2, h2', h3, h4⟩
 ·exact .inl ⟨h1, by rw [List.eq_nil_of_length_eq_zero h2]; rfl⟩
 ·refine .inr ⟨b, off, cap, by rw [List.length_map]; exact h1, by rw [List.length_map]; exact h2, h2', h3, fun j hj => ?_⟩
  rw [List.length_map] at hj
  rw [List.getElem_map]
  obtain ⟨⟨g1, g2, g3⟩, _⟩ := h.2 _ (List.getElem_mem hj)
  exact ⟨h4 (j * 8) _ (flat_atA R j hj 0 (by decide)), h4 (j * 8 + 1) _ (flat_atA R j hj 1 (by decide)), h4 (j * 8 + 2) _ (flat_atA R j hj 2 (by decide)), h4 (j * 8 + 3) _ (flat_atA R j hj 3 (by decide)), h4 (j * 8 + 4) _ (flat_atA R j hj 4 (by decide)), R[j].2.1, R[j].2.2.1, R[j].2.2.2, h4 (j * 8 + 5) _ (flat_atA R j hj 5 (by decide)), h4 (j * 8 + 6) _ (flat_atA R j hj 6 (by decide)), h4 (j * 8 + 7) _ (flat_atA R j hj 7 (by decide)), g1, g2, g3⟩
theorem Adrs.below {w w' : World} {base B : Nat} {v : Value} {R : List AdrU} (h : Adrs w base v R) (hB : Below B w w') (hs : w.heap.size ≤ B) : Adrs w' base v R := by
 refine ⟨⟨h.1.1, ?_⟩, fun r hr => ⟨⟨(h.2 r hr).1.1.below hB hs, (h.2 r hr).1.2.1.below hB hs, (h.2 r hr).1.2.2.below hB hs⟩, (h.2 r hr).2⟩⟩
 rcases h.1.2 with hn | ⟨g, cap, cur, rfl, hb, hgg, rest⟩
 ·exact .inl hn
 ·refine .inr ⟨g, cap, cur, rfl, hb, ?_, rest⟩
  have hlt := (Array.getElem?_eq_some_iff.1 hgg).1
  rw [hB.block g (by omega)]; exact hgg
theorem Adrs.lt {w : World} {base : Nat} {v : Value} {R : List AdrU} (h : Adrs w base v R) : ∀ k, v.ownBlock = some k → k < w.heap.size := by
 intro k hk
 rcases h.1.2 with ⟨rfl, _⟩ | ⟨g, cap, cur, rfl, hb, hgg, rest⟩
 ·simp [Value.ownBlock] at hk
 ·have e : g = k := by simpa [Value.ownBlock] using hk
  subst e
  exact (Array.getElem?_eq_some_iff.1 hgg).1
theorem Adrs.free {w wx : World} {base : Nat} {v u : Value} {R : List AdrU} {q : List Prm} (h : Adrs w base v R) (hF : Fresh wx.heap.size u) (hs : w.heap.size ≤ wx.heap.size) : FreeA v u q := by
 intro _ a n c e e2
 have h1 := h.lt _ e2
 have h2 := hF a n c e
 omega
end Go.Proofs.YtipdiddjhimdcaaGreatDoor
namespace Go.Proofs.YtipdiddjhimdcaaGreatDoor
open Go.RowKit Go.Sort
structure KeptB (g1 g2 : Nat) (w w' : World) : Prop where
 size : w.heap.size ≤ w'.heap.size
 blk : ∀ k, k < w.heap.size → k ≠ g1 → k ≠ g2 → w'.heap[k]? = w.heap[k]?
theorem KeptB.refl (g1 g2 : Nat) (w : World) : KeptB g1 g2 w w := ⟨ρ _, fun _ _ _ _ => rfl⟩
theorem KeptB.trans {g1 g2 : Nat} {w w1 w2 : World} (h : KeptB g1 g2 w w1) (h' : KeptB g1 g2 w1 w2) : KeptB g1 g2 w w2 :=
 ⟨Nat.le_trans h.size h'.size, fun k hk a b => (h'.blk k (Nat.lt_of_lt_of_le hk h.size) a b).trans (h.blk k hk a b)⟩
theorem RPrms.keptB {g1 g2 B : Nat} {w w' : World} {v : Value} {L : List Prm} (h : RPrms w v L) (hF : Fresh B v) (h1 : g1 < B) (h2 : g2 < B) (hk : KeptB g1 g2 w w') : RPrms w' v L :=
 h.heapA hk.size fun _ a n c e hlt => by
  have := hF a n c e
  exact hk.blk _ hlt (by omega) (by omega)
def RAdrsF (B : Nat) (w : World) (v : Value) (L : List Adr) : Prop :=
 ((∃ ao cap, v = .slice ao 0 cap) ∧ L = []) ∨
 ∃ b off cap, B ≤ b ∧ v = .slice (some ⟨b, off, none⟩) L.length cap ∧ L.length ≤ cap ∧ cap ≤ maxLen ∧ b < w.heap.size ∧
  ∀ j (hj : j < L.length), w.cell? ⟨b, off + j * 8, none⟩ = some (sv L[j].disp) ∧ w.cell? ⟨b, off + j * 8 + 1, none⟩ = some (sv L[j].uri.scheme) ∧ w.cell? ⟨b, off + j * 8 + 2, none⟩ = some (sv L[j].uri.user) ∧ w.cell? ⟨b, off + j * 8 + 3, none⟩ = some (sv L[j].uri.host) ∧ w.cell? ⟨b, off + j * 8 + 4, none⟩ = some (.int .i64 L[j].uri.port) ∧
   ∃ u1 u2 u3, w.cell? ⟨b, off + j * 8 + 5, none⟩ = some u1 ∧ w.cell? ⟨b, off + j * 8 + 6, none⟩ = some u2 ∧ w.cell? ⟨b, off + j * 8 + 7, none⟩ = some u3 ∧ (RPrms w u1 L[j].uri.ps ∧ RPrms w u2 L[j].uri.hs ∧ RPrms w u3 L[j].ps) ∧ Fresh B u1 ∧ Fresh B u2 ∧ Fresh B u3
theorem RAdrsF.nil (B : Nat) (w : World) : RAdrsF B w (.slice none 0 0) [] := .inl ⟨⟨_, _, rfl⟩, rfl⟩
theorem RAdrsF.read {B : Nat} {w : World} {v : Value} {L : List Adr} (h : RAdrsF B w v L) : RAdrs w v L := by
 rcases h with h | ⟨b, off, cap, h0, h1, h2, h2', h3, h4⟩
 ·exact .inl h
 ·refine .inr ⟨b, off, cap, h1, h2, h2', h3, fun j hj => ?_⟩
  obtain ⟨a0, a1, a2, a3, a4, u1, u2, u3, a5, a6, a7, ⟨k1, k2, k3⟩, _⟩ := h4 j hj
  exact ⟨a0, a1, a2, a3, a4, u1, u2, u3, a5, a6, a7, k1, k2, k3⟩
theorem RAdrsF.keptB {g1 g2 B : Nat} {w w' : World} {v : Value} {L : List Adr} (h : RAdrsF B w v L) (g1B : g1 < B) (g2B : g2 < B) (hk : KeptB g1 g2 w w') : RAdrsF B w' v L := by
 rcases h with h | ⟨b, off, cap, h0, h1, h2, h2', h3, h4⟩
 ·exact .inl h
 ·refine .inr ⟨b, off, cap, h0, h1, h2, h2', Nat.lt_of_lt_of_le h3 hk.size, fun j hj => ?_⟩
  obtain ⟨a0, a1, a2, a3, a4, u1, u2, u3, a5, a6, a7, ⟨k1, k2, k3⟩, f1, f2, f3⟩ := h4 j hj
  have e := hk.blk b h3 (by omega) (by omega)
  simp only [cell_heapA e]
  exact ⟨a0, a1, a2, a3, a4, u1, u2, u3, a5, a6, a7, ⟨k1.keptB f1 g1B g2B hk, k2.keptB f2 g1B g2B hk, k3.keptB f3 g1B g2B hk⟩, f1, f2, f3⟩
def FrU (B : Nat) (R : List AdrU) : Prop := ∀ r ∈ R, Fresh B r.2.1 ∧ Fresh B r.2.2.1 ∧ Fresh B r.2.2.2
theorem FrU.add {B : Nat} {R : List AdrU} (h : FrU B R) (a : Adr) {u1 u2 u3 : Value} (h1 : Fresh B u1) (h2 : Fresh B u2) (h3 : Fresh B u3) : FrU B (R ++ [(a, (u1, u2, u3))]) := by
 intro r hr
 rcases List.mem_append.1 hr with hr | hr
 ·exact h r hr
 ·rw [List.mem_singleton] at hr
  subst hr
  exact ⟨h1, h2, h3⟩
theorem same_belowQ {P : Program} {f : FuncId} {args : Array Value} {w : World} {v : Value} (h : Calls P f args w fun e w' => e = .returned v ∧ w = w') :
  Calls P f args w fun e w' => e = .returned v ∧ Below w.heap.size w w' := h.mono fun _ _ ⟨a, b⟩ => ⟨a, b ▸ Below.refl _ _⟩
theorem regrownB {W wq : World} (h : ∃ p : Regrown, wq = grow (redrawn W p.d) p.os) : Below W.heap.size W wq := by
 obtain ⟨p, rfl⟩ := h; exact below_regrown W p.d p.os
theorem checkS_first (m : Mg) (h : firstS m = false) : checkS m = 60 := by unfold checkS; rw [if_pos h]
theorem checkS_many (m : Mg) (h : firstS m = true) (h2 : 64 < m.hdrs.length) : checkS m = 4 := by unfold checkS; rw [if_neg (by rw [h]; decide), if_pos h2]
theorem checkS_bad (m : Mg) (h : firstS m = true) (h2 : ¬ 64 < m.hdrs.length) (k : Nat) (hk : k < m.hdrs.length) (hb : badH m.hdrs[k] = true) : checkS m = 61 := by
 unfold checkS; rw [if_neg (by rw [h]; decide), if_neg h2, if_pos]
 exact List.any_eq_true.2 ⟨_, List.getElem_mem hk, hb⟩
theorem checkS_ok (m : Mg) (h : firstS m = true) (h2 : ¬ 64 < m.hdrs.length) (hb : (m.hdrs.take m.hdrs.length).any badH = false) : checkS m = 0 := by
 rw [List.take_length] at hb
 unfold checkS; rw [if_neg (by rw [h]; decide), if_neg h2, if_neg (by rw [hb]; decide)]
theorem badH_next (H : List Hdr) (k : Nat) (h : k < H.length) (hp : (H.take k).any badH = false) (hb : badH H[k] = false) : (H.take (k + 1)).any badH = false := by
 rw [List.take_succ_eq_append_getElem h, List.any_append, hp, List.any_cons, hb]; rfl
theorem badH_cases (h : Hdr) :
  (token h.name = false ∧ badH h = true) ∨ (token h.name = true ∧ ¬ longS h.name = h.name ∧ badH h = true) ∨ (token h.name = true ∧ longS h.name = h.name ∧ isLen h.name = true ∧ badH h = true) ∨
  (token h.name = true ∧ longS h.name = h.name ∧ isLen h.name = false ∧ valS h.value = false ∧ badH h = true) ∨ (token h.name = true ∧ longS h.name = h.name ∧ isLen h.name = false ∧ valS h.value = true ∧ badH h = false) := by
 unfold badH
 cases h1 : token h.name
 ·exact .inl ⟨rfl, by simp⟩
 by_cases h2 : longS h.name = h.name
 ·cases h3 : isLen h.name
  ·cases h4 : valS h.value
   ·exact .inr (.inr (.inr (.inl ⟨rfl, h2, rfl, rfl, by simp⟩)))
   ·exact .inr (.inr (.inr (.inr ⟨rfl, h2, rfl, rfl, by simp [h2]⟩)))
  ·exact .inr (.inr (.inl ⟨rfl, h2, rfl, by simp⟩))
 ·exact .inr (.inl ⟨rfl, h2, by simp [h2]⟩)
set_option maxHeartbeats 6400000 in
theorem check_c (M T R B : ByteArray) (x : Int) (u : Value) (H : List Hdr) (hM : M.size ≤ 4294967280) (hT : T.size ≤ 4294967280) (hR : R.size ≤ 4294967280) (w : World) (hu : RHdrs w u H)
  (hb : ∀ h ∈ H, h.name.length ≤ 140737488355328 ∧ h.value.length ≤ 140737488355328) :
  Calls Tryz.prog 89 #[.agg #[.string M, .string T, .int .i64 x, .string R, u, .string B]] w fun e w' => e = .returned (.int .i64 (checkS ⟨us M, us T, x, us R, H, us B⟩)) ∧ Below w.heap.size w w' := by
 obtain ⟨ao, cap, rfl, hm1, c1⟩ := hu.form
 unfold maxLen at hm1
 have C1 := κ c1
 have HBD := κ hb
 have HF := κ (fun wx => firstF_c M T R B x (.slice ao H.length cap) H hM hT hR wx)
 have h60 := checkS_first ⟨us M, us T, x, us R, H, us B⟩
 have h4 := checkS_many ⟨us M, us T, x, us R, H, us B⟩
 have h61 := checkS_bad ⟨us M, us T, x, us R, H, us B⟩
 have h0 := checkS_ok ⟨us M, us T, x, us R, H, us B⟩
 clear c1 hu hb
 have hB0 : Below w.heap.size w (w.alloc (.cells #[.string M, .string T, .int .i64 x, .string R, .slice ao H.length cap, .string B] 45)) := (Below.refl _ _).alloc (ρ _) _
 obtain ⟨w0, hw0⟩ : ∃ w0, w0 = w.alloc (.cells #[.string M, .string T, .int .i64 x, .string R, .slice ao H.length cap, .string B] 45) := ⟨_, rfl⟩
 have bm : Blk w0 w.heap.size 45 #[.string M, .string T, .int .i64 x, .string R, .slice ao H.length cap, .string B] := by rw [hw0]; exact Blk.new _ _ _
 rw [← hw0] at hB0
 have HW0 := κ hw0.symm
 clear hw0
 obtain ⟨_, _, _, _, _, _, f0, f1, f2, f3, f4, f5, z2⟩ := bm.g6
 cases hf : firstS ⟨us M, us T, x, us R, H, us B⟩
 ·have HE := κ (h60 hf)
  rw [hf] at HF
  clear h60 h4 h61 h0 hf
  go_enter Tryz.func89, Tryz.ntmps89
  go_wp2_with (go_at_call 94; rw [HW0.out]; refine (HF.out _).mono ?_; rintro e w1 ⟨rfl, hC⟩)
  go_ret
  exact ⟨by rw [HE.out]; rfl, hB0.trans (hC.mono hB0.size)⟩
 ·rw [hf] at HF
  by_cases h64 : 64 < H.length
  ·have HE := κ (h4 hf h64)
   have t64 : ((64 : Int) < (H.length : Int)) := by omega
   clear h60 h4 h61 h0 hf
   go_enter Tryz.func89, Tryz.ntmps89
   go_wp2_with (go_at_call 94; rw [HW0.out]; refine (HF.out _).mono ?_; rintro e w1 ⟨rfl, hC⟩; obtain ⟨_, _, _, _, m4, _, _⟩ := (bm.call hC).g6)
   go_ret
   exact ⟨by rw [HE.out]; rfl, hB0.trans (hC.mono hB0.size)⟩
  ·have H61 := κ (h61 hf h64)
   have H0 := κ (h0 hf h64)
   have t64 : ¬ ((64 : Int) < (H.length : Int)) := by omega
   clear h60 h4 h61 h0 hf
   go_enter Tryz.func89, Tryz.ntmps89
   go_wp2_with (go_at_call 94; rw [HW0.out]; refine (HF.out _).mono ?_; rintro e w1 ⟨rfl, hC⟩; obtain ⟨_, _, _, _, m4, _, _⟩ := (bm.call hC).g6)
   clear m4 f0 f1 f2 f3 f4 f5
   have hB1 : Below w.heap.size w w1 := hB0.trans (hC.mono hB0.size)
   go_loopw [15] (fun i wr => ∃ k : Nat, k ≤ H.length ∧ i = .int .i64 k ∧ Below w.heap.size w wr ∧ (H.take k).any badH = false) (fun i _ => H.length - (intOf i).toNat)
   case atStart => exact ⟨0, Nat.zero_le _, rfl, hB1, rfl⟩
   case round =>
    obtain ⟨k, hk, rfl, hBr, hp⟩ := hrel
    have HP := κ hp; clear hp
    by_cases hlt : k < H.length
    ·obtain ⟨b, off, rfl, hb1, hc1⟩ := C1.out (by omega)
     obtain ⟨hbn, hbv⟩ := HBD.out _ (List.getElem_mem hlt)
     obtain ⟨N, hN⟩ : ∃ N, N = bs H[k].name := ⟨_, rfl⟩
     obtain ⟨V, hV⟩ : ∃ N, N = bs H[k].value := ⟨_, rfl⟩
     have x0 : wr.cell? ⟨b, off + k * 2, none⟩ = some (.string N) := by
      rw [hBr.cell (p := ⟨b, off + k * 2, none⟩) hb1, hN]; exact (hc1 k hlt).1
     have x1 : wr.cell? ⟨b, off + k * 2 + 1, none⟩ = some (.string V) := by
      rw [hBr.cell (p := ⟨b, off + k * 2 + 1, none⟩) hb1, hV]; exact (hc1 k hlt).2
     have hNs : N.size = H[k].name.length := by rw [hN, size_bs]
     have hVs : V.size = H[k].value.length := by rw [hV, size_bs]
     have k0 : (0 : Int) ≤ (k : Int) := by omega
     have W0 : (wr.alloc (.cells #[.string N, .string V] 68)).cell? ⟨wr.heap.size, 0, none⟩ = some (.string N) := boxedCell (heap_alloc_new wr _) 0
     have W1 : (wr.alloc (.cells #[.string N, .string V] 68)).cell? ⟨wr.heap.size, 1, none⟩ = some (.string V) := boxedCell (heap_alloc_new wr _) 1
     have q0 := cell_regrown W0
     have q1 := cell_regrown W1
     have cT := fun d os => Calls.regrown_of (same_belowQ (token_c N (by omega) (grow (redrawn (wr.alloc (.cells #[.string N, .string V] 68)) d) os)))
     have cL := fun d os => Calls.regrown_of (long_c N (by omega) (grow (redrawn (wr.alloc (.cells #[.string N, .string V] 68)) d) os))
     have cI := fun d os => Calls.regrown_of (length_c N (by omega) (grow (redrawn (wr.alloc (.cells #[.string N, .string V] 68)) d) os))
     have cV := fun d os => Calls.regrown_of (same_belowQ (value_c' V (by omega) (grow (redrawn (wr.alloc (.cells #[.string N, .string V] 68)) d) os)))
     have uN : us N = H[k].name := by rw [hN, us_bs]
     have uV : us V = H[k].value := by rw [hV, us_bs]
     have hbad := H61.out k hlt
     have hnext := badH_next H k hlt HP.out
     have hca := badH_cases H[k]
     rw [← uN, ← uV] at hca
     clear W0 W1 hN hV hNs hVs hbn hbv uN uV hc1 hb1
     rcases hca with ⟨h1, hh⟩ | ⟨h1, h2, hh⟩ | ⟨h1, h2, h3, hh⟩ | ⟨h1, h2, h3, h4, hh⟩ | ⟨h1, h2, h3, h4, hh⟩
     ·have HE := κ (hbad hh)
      rw [h1] at cT
      clear h1 hh hbad hnext
      go_wp2; refine wp_region_quiet_below (by kernel_rfl) (by kernel_rfl) ?_; (repeat (first | go_big_quiet_step (first | with_reducible exact cT _ _ | with_reducible exact cL _ _ | with_reducible exact cI _ _ | with_reducible exact cV _ _) | quiet_step (first | with_reducible exact cT _ _ | with_reducible exact cL _ _ | with_reducible exact cI _ _ | with_reducible exact cV _ _))); refine wpQuiet_nil ?_; intro wq hw'; have hBq := regrownB hw'; clear hw'; go_wp2; go_ret; exact ⟨by rw [HE.out]; rfl, hBr.trans ((((Below.refl _ _).alloc (ρ _) _).trans (hBq.mono (by rw [World.size_alloc]; omega))).mono hBr.size)⟩
     ·have HE := κ (hbad hh)
      rw [h1] at cT
      obtain ⟨N2, hN2⟩ : ∃ N2, N2 = bs (longS (us N)) := ⟨_, rfl⟩
      have hne : (N2.toList == N.toList) = false := by rw [toList_us, toList_us, hN2, us_bs, beq_eq_false_iff_ne]; exact h2
      rw [← hN2] at cL
      clear h1 h2 hh hbad hnext hN2
      go_wp2; refine wp_region_quiet_below (by kernel_rfl) (by kernel_rfl) ?_; (repeat (first | go_big_quiet_step (first | with_reducible exact cT _ _ | with_reducible exact cL _ _ | with_reducible exact cI _ _ | with_reducible exact cV _ _) | quiet_step (first | with_reducible exact cT _ _ | with_reducible exact cL _ _ | with_reducible exact cI _ _ | with_reducible exact cV _ _))); refine wpQuiet_nil ?_; intro wq hw'; have hBq := regrownB hw'; clear hw'; go_wp2; go_ret; exact ⟨by rw [HE.out]; rfl, hBr.trans ((((Below.refl _ _).alloc (ρ _) _).trans (hBq.mono (by rw [World.size_alloc]; omega))).mono hBr.size)⟩
     ·have HE := κ (hbad hh)
      rw [h1] at cT
      rw [h2, bs_us] at cL
      rw [h2, h3] at cI
      clear h1 h2 h3 hh hbad hnext
      go_wp2; refine wp_region_quiet_below (by kernel_rfl) (by kernel_rfl) ?_; (repeat (first | go_big_quiet_step (first | with_reducible exact cT _ _ | with_reducible exact cL _ _ | with_reducible exact cI _ _ | with_reducible exact cV _ _) | quiet_step (first | with_reducible exact cT _ _ | with_reducible exact cL _ _ | with_reducible exact cI _ _ | with_reducible exact cV _ _))); refine wpQuiet_nil ?_; intro wq hw'; have hBq := regrownB hw'; clear hw'; go_wp2; go_ret; exact ⟨by rw [HE.out]; rfl, hBr.trans ((((Below.refl _ _).alloc (ρ _) _).trans (hBq.mono (by rw [World.size_alloc]; omega))).mono hBr.size)⟩
     ·have HE := κ (hbad hh)
      rw [h1] at cT
      rw [h2, bs_us] at cL
      rw [h2, h3] at cI
      rw [h4] at cV
      clear h1 h2 h3 h4 hh hbad hnext
      go_wp2; refine wp_region_quiet_below (by kernel_rfl) (by kernel_rfl) ?_; (repeat (first | go_big_quiet_step (first | with_reducible exact cT _ _ | with_reducible exact cL _ _ | with_reducible exact cI _ _ | with_reducible exact cV _ _) | quiet_step (first | with_reducible exact cT _ _ | with_reducible exact cL _ _ | with_reducible exact cI _ _ | with_reducible exact cV _ _))); refine wpQuiet_nil ?_; intro wq hw'; have hBq := regrownB hw'; clear hw'; go_wp2; go_ret; exact ⟨by rw [HE.out]; rfl, hBr.trans ((((Below.refl _ _).alloc (ρ _) _).trans (hBq.mono (by rw [World.size_alloc]; omega))).mono hBr.size)⟩
     ·have HN := κ (hnext hh)
      rw [h1] at cT
      rw [h2, bs_us] at cL
      rw [h2, h3] at cI
      rw [h4] at cV
      clear h1 h2 h3 h4 hh hbad hnext
      go_wp2
      refine wp_region_quiet_below (by kernel_rfl) (by kernel_rfl) ?_; (repeat (first | go_big_quiet_step (first | with_reducible exact cT _ _ | with_reducible exact cL _ _ | with_reducible exact cI _ _ | with_reducible exact cV _ _) | quiet_step (first | with_reducible exact cT _ _ | with_reducible exact cL _ _ | with_reducible exact cI _ _ | with_reducible exact cV _ _))); refine wpQuiet_nil ?_; intro wq hw'; have hBq := regrownB hw'; clear hw'
      go_wp2
      go_roundw
      case rel => exact ⟨k + 1, by omega, by go_num, hBr.trans ((((Below.refl _ _).alloc (ρ _) _).trans (hBq.mono (by rw [World.size_alloc]; omega))).mono hBr.size), HN.out⟩
      case measure => simp [intOf]; omega
    ·have hk' : k = H.length := by omega
     have HE := κ (H0.out (by rw [← hk']; exact HP.out))
     go_wp2
     go_ret
     exact ⟨by rw [HE.out]; rfl, hBr⟩
section
variable {P : Program} {ops : Array Oper} {o : Oper} {a : Act} {Q : Exit → Act → World → Prop}
theorem step_wX2 {K : Act → World → Prop} {w : World} {E : Prop} {R : Value → World → Prop} {f : FuncId} {x y : Operand} {ts : Array TypeId} {v0 v1 : Value}
  (hw : Region.wanted o (yielded ops a.tmps) = true) (ho : o.op = .call { callee := .value (.func f), args := #[x, y], argTypes := ts }) {fn : Func} (hf : P.funcs[f]? = some fn) (hnm : (fn.name == "runtime.NumGoroutine") = false) (hbd : fn.body.isNone = false)
  (hx : a.eval x = v0) (hy : a.eval y = v1) (hC : Calls P f #[v0, v1] w fun e w' => ∃ v, e = .returned v ∧ R v w') (hK : ∀ v w', R v w' → K (a.put o.dst v) w') :
  if Region.wanted o (yielded ops a.tmps) = true then Oper.wp P o a w K Q else E := by
 rw [if_pos hw]
 unfold Oper.wp
 have h1 : fn.name ≠ "runtime.NumGoroutine" := by simpa using hnm
 have h2 : fn.body ≠ none := by intro e; rw [e] at hbd; cases hbd
 have hrun : (execOp a.eval o).run P w = .ok (.enter f #[v0, v1]) w := by
  subst hx hy
  simp [execOp, ho, resolve, Deferred.ofValue, invoke, callFunc, Act.eval, hf, h1, h2, Result.andThen]
 rw [hrun]
 refine hC.mono ?_
 rintro e w' ⟨v, rfl, hR⟩
 exact hK v w' hR
end
end Go.Proofs.YtipdiddjhimdcaaGreatDoor
