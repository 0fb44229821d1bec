/-
  comp.Compose: how it begins; plain laws.
-/
import Derived.Test.YtbljmjbialinkaaDoorMxn
namespace Go.Proofs.YtbljmjbialinkaaDoor
set_option linter.unusedSimpArgs false
set_option linter.unusedVariables false
open Go.RowKit Go.Sort Go.Maps

theorem mx_start (w : World) (who : List UInt8) : Blk (((((w.alloc (.cells #[.string ⟨#[]⟩, .slice none 0 0, .slice none 0 0] 25)).alloc (.map #[] 0)).alloc (.map #[] 0)).alloc (.map #[] 0)).alloc (.cells #[sv who, .slice none 0 0, .slice none 0 0, .map (some (w.heap.size + 1)), .map (some (w.heap.size + 1 + 1)), .map (some (w.heap.size + 1 + 1 + 1))] 45)) w.heap.size 25 #[.string ⟨#[]⟩, .slice none 0 0, .slice none 0 0] ∧ MxA (((((w.alloc (.cells #[.string ⟨#[]⟩, .slice none 0 0, .slice none 0 0] 25)).alloc (.map #[] 0)).alloc (.map #[] 0)).alloc (.map #[] 0)).alloc (.cells #[sv who, .slice none 0 0, .slice none 0 0, .map (some (w.heap.size + 1)), .map (some (w.heap.size + 1 + 1)), .map (some (w.heap.size + 1 + 1 + 1))] 45)) (w.heap.size + 1) (w.heap.size + 1 + 1 + 1 + 1) who (.slice none 0 0) (.slice none 0 0) (w.heap.size + 1) (w.heap.size + 1 + 1) (w.heap.size + 1 + 1 + 1) [] [] [] [] [] ∧ Below w.heap.size w (((((w.alloc (.cells #[.string ⟨#[]⟩, .slice none 0 0, .slice none 0 0] 25)).alloc (.map #[] 0)).alloc (.map #[] 0)).alloc (.map #[] 0)).alloc (.cells #[sv who, .slice none 0 0, .slice none 0 0, .map (some (w.heap.size + 1)), .map (some (w.heap.size + 1 + 1)), .map (some (w.heap.size + 1 + 1 + 1))] 45)) := by
  have s1 : (w.alloc (.cells #[.string ⟨#[]⟩, .slice none 0 0, .slice none 0 0] 25)).heap.size = w.heap.size + 1 := World.size_alloc _ _
  have s2 : ((w.alloc (.cells #[.string ⟨#[]⟩, .slice none 0 0, .slice none 0 0] 25)).alloc (.map #[] 0)).heap.size = w.heap.size + 1 + 1 := by rw [World.size_alloc, s1]
  have s3 : (((w.alloc (.cells #[.string ⟨#[]⟩, .slice none 0 0, .slice none 0 0] 25)).alloc (.map #[] 0)).alloc (.map #[] 0)).heap.size = w.heap.size + 1 + 1 + 1 := by rw [World.size_alloc, s2]
  have s4 : ((((w.alloc (.cells #[.string ⟨#[]⟩, .slice none 0 0, .slice none 0 0] 25)).alloc (.map #[] 0)).alloc (.map #[] 0)).alloc (.map #[] 0)).heap.size = w.heap.size + 1 + 1 + 1 + 1 := by rw [World.size_alloc, s3]
  have o1 := World.ownsMap_made (w.alloc (.cells #[.string ⟨#[]⟩, .slice none 0 0, .slice none 0 0] 25)) Tryd.prog 9 (plainElem (H := Unit) Tryd.prog 3)
  have o2 := World.ownsMap_made ((w.alloc (.cells #[.string ⟨#[]⟩, .slice none 0 0, .slice none 0 0] 25)).alloc (.map #[] 0)) Tryd.prog 39 (plainElem (H := Unit) Tryd.prog 3)
  have o3 := World.ownsMap_made (((w.alloc (.cells #[.string ⟨#[]⟩, .slice none 0 0, .slice none 0 0] 25)).alloc (.map #[] 0)).alloc (.map #[] 0)) Tryd.prog 9 (plainElem (H := Unit) Tryd.prog 3)
  have b4 := Blk.new ((((w.alloc (.cells #[.string ⟨#[]⟩, .slice none 0 0, .slice none 0 0] 25)).alloc (.map #[] 0)).alloc (.map #[] 0)).alloc (.map #[] 0)) 45 #[sv who, .slice none 0 0, .slice none 0 0, .map (some (w.heap.size + 1)), .map (some (w.heap.size + 1 + 1)), .map (some (w.heap.size + 1 + 1 + 1))]
  rw [s1] at o1
  rw [s2] at o2
  rw [s3] at o3
  rw [s4] at b4
  refine ⟨((((Blk.new w 25 #[.string ⟨#[]⟩, .slice none 0 0, .slice none 0 0]).alloc _).alloc _).alloc _).alloc _, ⟨b4, World.ownsRow_nil _ _ _ _, World.ownsRow_nil _ _ _ _, ⟨_, ((o1.alloc _).alloc _).alloc _, cntA_nil⟩, ⟨_, (o2.alloc _).alloc _, cntA_nil⟩, ⟨_, o3.alloc _, cntA_nil⟩, ⟨by omega, by omega, by omega, by omega⟩, ⟨by omega, by omega, by omega, by omega, by omega, by omega⟩, fun k hk => by simp [Value.ownBlock] at hk, fun k hk => by simp [Value.ownBlock] at hk⟩, ?_⟩
  exact (((((Below.refl _ _).alloc (Nat.le_refl _) _).alloc (by omega) _).alloc (by omega) _).alloc (by omega) _).alloc (by omega) _
theorem chk_step (last : Int) (L : List Pb) (k : Nat) (hk : k < L.length) : chkP okDoc last (L.drop k) = if L[k].num ≤ last then 1 else if okDoc L[k].doc = false then 140 else chkP okDoc L[k].num (L.drop (k + 1)) := by
  rw [List.drop_eq_getElem_cons hk, chkP]
theorem compose_err (who : List UInt8) (L : List Pb) (h : okDoc ⟨who, [], []⟩ = false) : composeS candP okDoc who L = (doc0, 140) := by unfold composeS; rw [if_pos h]
theorem compose_bad (who : List UInt8) (L : List Pb) (h : okDoc ⟨who, [], []⟩ = true) (c : Int) (hc : chkP okDoc 0 L = c) (hz : c ≠ 0) : composeS candP okDoc who L = (doc0, c) := by
  unfold composeS; rw [if_neg (by rw [h]; decide), hc, if_pos hz]
theorem compose_ok (who : List UInt8) (L : List Pb) (h : okDoc ⟨who, [], []⟩ = true) (hc : chkP okDoc 0 L = 0) : composeS candP okDoc who L = (⟨who, (mixS candP L).out, (mixS candP L).notes⟩, 0) := by
  unfold composeS; rw [if_neg (by rw [h]; decide), hc, if_neg (fun h => h rfl)]
/-- how much a mixer holds -/
def MixBd (m : Mix) (n : Nat) : Prop := m.out.length ≤ 16 ∧ m.notes.length ≤ 16 ∧ m.seen.length ≤ n ∧ m.known.length ≤ n
theorem addT_bd (num : Int) (m : Mix) (t : Tup) : (m.out.length ≤ 16 → (addT candP num m t).out.length ≤ 16) ∧ (addT candP num m t).seen.length = m.seen.length + 1 ∧ (addT candP num m t).notes = m.notes ∧ (addT candP num m t).known = m.known := by
  unfold addT
  split
  · exact ⟨fun h => h, by simp, rfl, rfl⟩
  · rename_i h
    refine ⟨fun h2 => ?_, by simp, rfl, rfl⟩
    have : ¬ 16 ≤ m.out.length := fun h3 => h (.inr h3)
    simp only [List.length_append, List.length_singleton]; omega
theorem addN_bd (m : Mix) (s : List UInt8) : (m.notes.length ≤ 16 → (addN m s).notes.length ≤ 16) ∧ (addN m s).known.length = m.known.length + 1 ∧ (addN m s).out = m.out ∧ (addN m s).seen = m.seen := by
  unfold addN
  split
  · exact ⟨fun h => h, by simp, rfl, rfl⟩
  · rename_i h
    refine ⟨fun h2 => ?_, by simp, rfl, rfl⟩
    have : ¬ 16 ≤ m.notes.length := fun h3 => h (.inr h3)
    simp only [List.length_append, List.length_singleton]; omega
theorem foldT_known (num : Int) : ∀ (L : List Tup) (m : Mix), (L.foldl (addT candP num) m).known = m.known
  | [], _ => rfl
  | t :: r, m => by rw [List.foldl_cons, foldT_known num r, (addT_bd num m t).2.2.2]
theorem mix_eta (m : Mix) : (⟨m.out, m.seen, m.notes, m.known⟩ : Mix) = m := rfl
/-- what a walk keeps of the publication at hand -/
def PbAt (w : World) (pb : Nat) (cs : Array Value) (vt vn : Value) : Prop := Blk w pb 27 cs ∧ vt.ownBlock ≠ some pb ∧ vn.ownBlock ≠ some pb
theorem far_grown {w w9 : World} {r : Nat} (hb : Below 0 w w9) (hf : ∀ k, k ≠ r → w9.heap[k]? = w.heap[k]?) : w.grownBy w9 (some r) :=
  ⟨hb.os, hb.tape, hb.output, hb.size, fun k _ hne => hf k (fun e => hne (by rw [e]))⟩

end Go.Proofs.YtbljmjbialinkaaDoor
