/- Contracts of Go functions, and plain laws. No condition but those told. -/
import Derived.Test.YtgkilllbkljibaaGreatDoorRmA
set_option linter.unusedSimpArgs false
set_option linter.unusedVariables false
set_option maxRecDepth 100000
namespace Go.Proofs.YtgkilllbkljibaaGreatDoor
open Go.RowKit Go.Sort
def plainH10 : List Hdr := [⟨nVia, [83, 73, 80, 47, 50, 46, 48, 47, 85, 68, 80, 32, 99, 59, 98, 114, 97, 110, 99, 104, 61, 122, 57, 104, 71, 52, 98, 75, 49]⟩, ⟨nFrom, [60, 115, 105, 112, 58, 97, 64, 98, 62, 59, 116, 97, 103, 61, 49]⟩, ⟨nTo, [60, 115, 105, 112, 58, 97, 64, 98, 62]⟩, ⟨nCall, [57]⟩, ⟨nCseq, [49, 32, 80, 85, 66, 76, 73, 83, 72]⟩]
def plainM10 : Mg := ⟨[80, 85, 66, 76, 73, 83, 72], [115, 105, 112, 58, 97, 64, 98], 0, [], plainH10, []⟩
def ansH10 : List Hdr := [⟨nVia, [83, 73, 80, 47, 50, 46, 48, 47, 85, 68, 80, 32, 99, 59, 98, 114, 97, 110, 99, 104, 61, 122, 57, 104, 71, 52, 98, 75, 49]⟩, ⟨nFrom, [60, 115, 105, 112, 58, 97, 64, 98, 62, 59, 116, 97, 103, 61, 49]⟩, ⟨nTo, [60, 115, 105, 112, 58, 97, 64, 98, 62, 59, 116, 97, 103, 61, 120]⟩, ⟨nCall, [57]⟩, ⟨nCseq, [49, 32, 80, 85, 66, 76, 73, 83, 72]⟩]
def ansM10 : Mg := ⟨[], [], 200, [79, 75], ansH10, []⟩
theorem RHdrs.blk {w : World} {g : Nat} {L : List Hdr} (hb : Blk w g 46 (L.flatMap fun h => [Value.string (bs h.name), Value.string (bs h.value)]).toArray) (h0 : 0 < L.length) (hm : L.length ≤ maxLen) : RHdrs w (.slice (some ⟨g, 0, none⟩) L.length L.length) L := by
 have hf : ∀ (L : List Hdr) (j : Nat) (hj : j < L.length), (L.flatMap fun h => [Value.string (bs h.name), Value.string (bs h.value)])[j * 2]? = some (.string (bs L[j].name)) ∧ (L.flatMap fun h => [Value.string (bs h.name), Value.string (bs h.value)])[j * 2 + 1]? = some (.string (bs L[j].value)) := by
  intro L
  induction L with
  | nil => intro j hj; simp at hj
  | cons x r ih =>
   intro j hj
   cases j with
   | zero => exact ⟨rfl, rfl⟩
   | succ j =>
    have := ih j (by simpa using hj)
    rw [List.flatMap_cons, show (j + 1) * 2 = j * 2 + 2 by omega, show j * 2 + 2 + 1 = (j * 2 + 1) + 2 by omega]
    exact this
 refine .inr ⟨g, 0, L.length, rfl, ρ _, hm, hb.lt, fun j hj => ?_⟩
 obtain ⟨a, b⟩ := hf L j hj
 rw [Nat.zero_add]
 refine ⟨(boxedCell hb (j * 2)).trans ?_, (boxedCell hb (j * 2 + 1)).trans ?_⟩
 ·rw [List.getElem?_toArray]; exact a
 ·rw [List.getElem?_toArray]; exact b
set_option maxRecDepth 100000 in
set_option maxHeartbeats 3200000 in
theorem plain10_c (w : World) :
  Calls Tryz.prog 15 #[] w fun e w' => ∃ u, e = .returned (.agg #[.string ⟨#[80, 85, 66, 76, 73, 83, 72]⟩, .string ⟨#[115, 105, 112, 58, 97, 64, 98]⟩, .int .i64 0, .string ⟨#[]⟩, u, .string ⟨#[]⟩]) ∧ RHdrs w' u plainH10 ∧ Below w.heap.size w w' := by
 have hB0 : Below w.heap.size w ((w.alloc (.cells #[.string ⟨#[]⟩, .string ⟨#[]⟩, .int .i64 0, .string ⟨#[]⟩, .slice none 0 0, .string ⟨#[]⟩] 24)).alloc (.cells #[.string ⟨#[86, 105, 97]⟩, .string ⟨#[83, 73, 80, 47, 50, 46, 48, 47, 85, 68, 80, 32, 99, 59, 98, 114, 97, 110, 99, 104, 61, 122, 57, 104, 71, 52, 98, 75, 49]⟩, .string ⟨#[70, 114, 111, 109]⟩, .string ⟨#[60, 115, 105, 112, 58, 97, 64, 98, 62, 59, 116, 97, 103, 61, 49]⟩, .string ⟨#[84, 111]⟩, .string ⟨#[60, 115, 105, 112, 58, 97, 64, 98, 62]⟩, .string ⟨#[67, 97, 108, 108, 45, 73, 68]⟩, .string ⟨#[57]⟩, .string ⟨#[67, 83, 101, 113]⟩, .string ⟨#[49, 32, 80, 85, 66, 76, 73, 83, 72]⟩] 46)) := ((Below.refl _ _).alloc (ρ _) _).alloc (by rw [World.size_alloc]; omega) _
 have b0 : Blk ((w.alloc (.cells #[.string ⟨#[]⟩, .string ⟨#[]⟩, .int .i64 0, .string ⟨#[]⟩, .slice none 0 0, .string ⟨#[]⟩] 24)).alloc (.cells #[.string ⟨#[86, 105, 97]⟩, .string ⟨#[83, 73, 80, 47, 50, 46, 48, 47, 85, 68, 80, 32, 99, 59, 98, 114, 97, 110, 99, 104, 61, 122, 57, 104, 71, 52, 98, 75, 49]⟩, .string ⟨#[70, 114, 111, 109]⟩, .string ⟨#[60, 115, 105, 112, 58, 97, 64, 98, 62, 59, 116, 97, 103, 61, 49]⟩, .string ⟨#[84, 111]⟩, .string ⟨#[60, 115, 105, 112, 58, 97, 64, 98, 62]⟩, .string ⟨#[67, 97, 108, 108, 45, 73, 68]⟩, .string ⟨#[57]⟩, .string ⟨#[67, 83, 101, 113]⟩, .string ⟨#[49, 32, 80, 85, 66, 76, 73, 83, 72]⟩] 46)) w.heap.size 24 #[.string ⟨#[]⟩, .string ⟨#[]⟩, .int .i64 0, .string ⟨#[]⟩, .slice none 0 0, .string ⟨#[]⟩] := (Blk.new w 24 #[.string ⟨#[]⟩, .string ⟨#[]⟩, .int .i64 0, .string ⟨#[]⟩, .slice none 0 0, .string ⟨#[]⟩]).alloc _
 have b1 : Blk ((w.alloc (.cells #[.string ⟨#[]⟩, .string ⟨#[]⟩, .int .i64 0, .string ⟨#[]⟩, .slice none 0 0, .string ⟨#[]⟩] 24)).alloc (.cells #[.string ⟨#[86, 105, 97]⟩, .string ⟨#[83, 73, 80, 47, 50, 46, 48, 47, 85, 68, 80, 32, 99, 59, 98, 114, 97, 110, 99, 104, 61, 122, 57, 104, 71, 52, 98, 75, 49]⟩, .string ⟨#[70, 114, 111, 109]⟩, .string ⟨#[60, 115, 105, 112, 58, 97, 64, 98, 62, 59, 116, 97, 103, 61, 49]⟩, .string ⟨#[84, 111]⟩, .string ⟨#[60, 115, 105, 112, 58, 97, 64, 98, 62]⟩, .string ⟨#[67, 97, 108, 108, 45, 73, 68]⟩, .string ⟨#[57]⟩, .string ⟨#[67, 83, 101, 113]⟩, .string ⟨#[49, 32, 80, 85, 66, 76, 73, 83, 72]⟩] 46)) (w.heap.size + 1) 46 #[.string ⟨#[86, 105, 97]⟩, .string ⟨#[83, 73, 80, 47, 50, 46, 48, 47, 85, 68, 80, 32, 99, 59, 98, 114, 97, 110, 99, 104, 61, 122, 57, 104, 71, 52, 98, 75, 49]⟩, .string ⟨#[70, 114, 111, 109]⟩, .string ⟨#[60, 115, 105, 112, 58, 97, 64, 98, 62, 59, 116, 97, 103, 61, 49]⟩, .string ⟨#[84, 111]⟩, .string ⟨#[60, 115, 105, 112, 58, 97, 64, 98, 62]⟩, .string ⟨#[67, 97, 108, 108, 45, 73, 68]⟩, .string ⟨#[57]⟩, .string ⟨#[67, 83, 101, 113]⟩, .string ⟨#[49, 32, 80, 85, 66, 76, 73, 83, 72]⟩] := by
  have := Blk.new (w.alloc (.cells #[.string ⟨#[]⟩, .string ⟨#[]⟩, .int .i64 0, .string ⟨#[]⟩, .slice none 0 0, .string ⟨#[]⟩] 24)) 46 #[.string ⟨#[86, 105, 97]⟩, .string ⟨#[83, 73, 80, 47, 50, 46, 48, 47, 85, 68, 80, 32, 99, 59, 98, 114, 97, 110, 99, 104, 61, 122, 57, 104, 71, 52, 98, 75, 49]⟩, .string ⟨#[70, 114, 111, 109]⟩, .string ⟨#[60, 115, 105, 112, 58, 97, 64, 98, 62, 59, 116, 97, 103, 61, 49]⟩, .string ⟨#[84, 111]⟩, .string ⟨#[60, 115, 105, 112, 58, 97, 64, 98, 62]⟩, .string ⟨#[67, 97, 108, 108, 45, 73, 68]⟩, .string ⟨#[57]⟩, .string ⟨#[67, 83, 101, 113]⟩, .string ⟨#[49, 32, 80, 85, 66, 76, 73, 83, 72]⟩]
  rwa [World.size_alloc] at this
 go_enter Tryz.func15, Tryz.ntmps15
 go_wp2_with ((with_reducible refine holdStore 24 rfl ?_); unfold Hold; refine wpList_storeB (off := 0) (vs := #[.string ⟨#[80, 85, 66, 76, 73, 83, 72]⟩, .string ⟨#[115, 105, 112, 58, 97, 64, 98]⟩, .int .i64 0, .string ⟨#[]⟩, .slice (some ⟨w.heap.size + 1, 0, none⟩) 5 5, .string ⟨#[]⟩]) (cs' := #[.string ⟨#[80, 85, 66, 76, 73, 83, 72]⟩, .string ⟨#[115, 105, 112, 58, 97, 64, 98]⟩, .int .i64 0, .string ⟨#[]⟩, .slice (some ⟨w.heap.size + 1, 0, none⟩) 5 5, .string ⟨#[]⟩]) rfl rfl rfl rfl (by kernel_rfl) b0 (Nat.le_of_ble_eq_true (by kernel_rfl)) (by kernel_rfl) (by kernel_rfl) ?_; intro w9 b9 hf9 hs9 hl9)
 refine bodyPost_ret (results_c rfl rfl Tryz.underlying24 (by kernel_rfl) b9) rfl ?_
 have b2 := (hf9 (w.heap.size + 1) (by omega)).trans b1
 exact ⟨_, rfl, RHdrs.blk (L := plainH10) b2 (by decide) (by decide), hB0.trans (hl9 _ (ρ _))⟩
set_option maxHeartbeats 1600000 in
theorem reason200_c (w : World) : Calls Tryz.prog 18 #[.int .i64 200] w fun e w' => e = .returned (.string ⟨#[79, 75]⟩) ∧ w = w' := by
 go_enter Tryz.func18, Tryz.ntmps18
 go_wp2
 go_ret
 exact ⟨rfl, rfl⟩
set_option maxHeartbeats 1600000 in
theorem reason489_c (w : World) : Calls Tryz.prog 18 #[.int .i64 489] w fun e w' => e = .returned (.string ⟨#[66, 97, 100, 32, 69, 118, 101, 110, 116]⟩) ∧ w = w' := by
 go_enter Tryz.func18, Tryz.ntmps18
 go_wp2
 go_ret
 exact ⟨rfl, rfl⟩
section
variable {P : Program} {ops : Array Oper} {rest : List Oper} {o : Oper} {a : Act} {Q : Exit → Act → World → Prop} {w : World} {g : Nat} {t : TypeId}
theorem flatH_len : ∀ L : List Hdr, (L.flatMap Hdr.cells).length = L.length * 2
 | [] => rfl
 | p :: r => by rw [List.flatMap_cons, List.length_append, flatH_len r, List.length_cons]; simp [Hdr.cells]; omega
theorem wpList_appHs {wE w : World} {base : Nat} {t : TypeId} {v vx : Value} {L M : List Hdr} {s x : Operand}
  (hgd : o.guard = none) (ho : o.op = .call { callee := .builtin .append, args := #[s, x], argTypes := #[t, t] })
  (ht : P.underlying t = some (.slice 46)) (hi : infoIs P 46 (.agg #[.string ⟨#[]⟩, .string ⟨#[]⟩]) 2 32)
  (hx : a.eval x = vx) (hR : RHdrs w vx M) (hs : a.eval s = v) (hown : Hdrs w base v L) (hB : Below base wE w) (hbase : base ≤ wE.heap.size)
  (hbd : (L.length + M.length) * 32 ≤ 140737488355328)
  (h : ∀ v' w', Hdrs w' base v' (L ++ M) → Below base wE w' → wpList P ops Q rest (a.put o.dst v') w') :
  wpList P ops Q (o :: rest) a w := by
 obtain ⟨i, hi0, hi1, hi2, hi3⟩ := info_parts hi
 rcases hR with ⟨⟨ao, c, hv⟩, h0⟩ | ⟨b, off, cap, hv, hc1, hc2, hlt, hcells⟩
 ·subst h0
  have hrun : (Builtin.append_ #[t, t] o.type #[v, .slice ao 0 c]).run P w = .ok v w := by
   rcases hown.2 with ⟨rfl, _⟩ | ⟨g, cap, cur, rfl, _, hgg, hle, _⟩
   ·cases ao <;> simp [Builtin.append_, run_underlying ht, sizeOf, typeInfo, hi0, Builtin.lenOf, Builtin.firstCells, loadCells, loadCellsFrom]
   ·cases ao with
    | some ad =>
     have := run_append_room_cells (P := P) w t o.type 46 i ht hi0 g 0 L.length cap ad 0 c [] (by simp) (fun j u h => by simp at h) (fun u h => by cases h) hle (fun j h => by simp at h) (fun j h => by simp at h)
     rw [this]
     first | rfl | simp [World.setCells]
    | none => simp [Builtin.append_, run_underlying ht, sizeOf, typeInfo, hi0, Builtin.lenOf, hle, Builtin.firstCells, storeCells, Addr.add_lit]
  refine wpList_plain hgd fun K hK' => ?_
  unfold Oper.wp
  simp [execOp, ho, resolve, invoke, builtin, hs, hx, hv, hrun, Result.andThen]
  exact hK' _ _ (h _ _ (by rw [List.append_nil]; exact hown) hB)
 refine wpList_plain hgd fun K hK => ?_
 subst hv
 have hsz2 := hB.size
 refine wp_append_own _ s x t ho base 46 i _ 2 32 ht hi0 hi1 hi2 hi3 rfl (by decide) v L.length (L.flatMap Hdr.cells) hs hown ⟨b, off, none⟩ M.length cap (M.flatMap Hdr.cells) hx (flatH_len M) ?_ ?_ (by simp only [maxLen]; omega) hbd (by omega) ?_
 ·intro j u hu
  have hadd : (⟨b, off, none⟩ : Addr).add j = ⟨b, off + j, none⟩ := by unfold Addr.add; split <;> simp_all
  rw [hadd]
  have hj0 : j < M.length * 2 := by rw [← flatH_len]; exact (List.getElem?_eq_some_iff.1 hu).1
  have hj : j / 2 < M.length := by omega
  have e := flat_atH M (j / 2) hj (j % 2) (Nat.mod_lt _ (by decide))
  rw [show j / 2 * 2 + j % 2 = j by omega, hu] at e
  obtain ⟨h0, h1⟩ := hcells (j / 2) hj
  have hr : j % 2 = 0 ∨ j % 2 = 1 := by omega
  rcases hr with hr | hr <;> rw [hr] at e <;> simp [Hdr.cells] at e <;> rw [e]
  ·rw [show off + j = off + j / 2 * 2 by omega]; exact h0
  ·rw [show off + j = off + j / 2 * 2 + 1 by omega]; exact h1
 ·intro u hu
  obtain ⟨p, _, hu⟩ := List.mem_flatMap.1 hu
  simp only [Hdr.cells, sv, List.mem_cons, List.not_mem_nil, or_false] at hu
  rcases hu with rfl | rfl <;> rfl
 ·intro v' w' ho' hg _
  refine hK _ _ (h v' w' ?_ (hB.grown hg (by omega) ?_))
  ·unfold Hdrs; simpa using ho'
  ·intro k hk; exact ((World.ownsRow.lt hown) k hk).1
end
theorem hdrs_to {w : World} {base : Nat} {v : Value} {L : List Hdr} (h : Hdrs w base v L) : ∃ ao cap, v = .slice ao L.length cap := by
 obtain ⟨ao, cap, e, _⟩ := h.len
 exact ⟨ao, cap, e⟩
end Go.Proofs.YtgkilllbkljibaaGreatDoor
