/-
  Headers (name, value) as rows of two cells; frame.All and the reference's.
-/
import Derived.Test.YtjohecbmeoalaaaDoorFrS
import Derived.Test.YtjohecbmeoalaaaDoorPrm
import Derived.Test.YtjohecbmeoalaaaDoorFld
namespace Go.Proofs.YtjohecbmeoalaaaDoor
open Go.RowKit

def Hdr.cells (p : Hdr) : List Value := [sv p.name, sv p.value]
/-- a slice of headers that reads as L -/
def RHdrs (w : World) (v : Value) (L : List Hdr) : Prop :=
  ((∃ ao cap, v = .slice ao 0 cap) ∧ L = []) ∨
  ∃ b off cap, v = .slice (some ⟨b, off, none⟩) L.length cap ∧ L.length ≤ cap ∧ cap ≤ maxLen ∧ b < w.heap.size ∧
    ∀ j (hj : j < L.length), w.cell? ⟨b, off + j * 2, none⟩ = some (sv L[j].name) ∧ w.cell? ⟨b, off + j * 2 + 1, none⟩ = some (sv L[j].value)
theorem RHdrs.below {w w' : World} {B : Nat} {v : Value} {L : List Hdr} (h : RHdrs w v L) (hB : Below B w w') (hs : w.heap.size ≤ B) : RHdrs w' v L := by
  rcases h with h | ⟨b, off, cap, h1, h2, h2', h3, h4⟩
  · exact .inl h
  · refine .inr ⟨b, off, cap, h1, h2, h2', Nat.lt_of_lt_of_le h3 hB.size, fun j hj => ?_⟩
    rw [hB.cell (p := ⟨b, off + j * 2, none⟩) (by show b < B; omega), hB.cell (p := ⟨b, off + j * 2 + 1, none⟩) (by show b < B; omega)]
    exact h4 j hj
theorem RHdrs.form {w : World} {v : Value} {L : List Hdr} (h : RHdrs w v L) : ∃ ao cap, v = .slice ao L.length cap ∧ L.length ≤ maxLen ∧
    (0 < L.length → ∃ b off, ao = some ⟨b, off, none⟩ ∧ b < w.heap.size ∧ ∀ j (hj : j < L.length), w.cell? ⟨b, off + j * 2, none⟩ = some (sv L[j].name) ∧ w.cell? ⟨b, off + j * 2 + 1, none⟩ = some (sv L[j].value)) := by
  rcases h with ⟨⟨ao, cap, rfl⟩, rfl⟩ | ⟨b, off, cap, rfl, h2, h2', h3, h4⟩
  · exact ⟨ao, cap, rfl, Nat.zero_le _, fun h => by simp at h⟩
  · exact ⟨some ⟨b, off, none⟩, cap, rfl, Nat.le_trans h2 h2', fun _ => ⟨b, off, rfl, h3, h4⟩⟩
theorem RHdrs.nil (w : World) : RHdrs w (.slice none 0 0) [] := .inl ⟨⟨_, _, rfl⟩, rfl⟩
/-- a slice of headers of the call's own -/
def Hdrs (w : World) (base : Nat) (v : Value) (L : List Hdr) : Prop := w.ownsRow base 37 2 v L.length (L.flatMap Hdr.cells)
theorem Hdrs.nil (w : World) (base : Nat) : Hdrs w base (.slice none 0 0) [] := World.ownsRow_nil w base _ 2
theorem flat_atH : ∀ (L : List Hdr) (j : Nat) (hj : j < L.length) (i : Nat), i < 2 → (L.flatMap Hdr.cells)[j * 2 + i]? = L[j].cells[i]?
  | p :: r, 0, _, i, hi => by
    rw [List.flatMap_cons, Nat.zero_mul, Nat.zero_add, List.getElem?_append_left (by simpa [Hdr.cells] using hi)]; rfl
  | p :: r, j + 1, hj, i, hi => by
    rw [List.flatMap_cons, List.getElem?_append_right (by simp [Hdr.cells]; omega)]
    have : (j + 1) * 2 + i - p.cells.length = j * 2 + i := by simp [Hdr.cells]; omega
    rw [this]
    exact flat_atH r j (by simpa using hj) i hi
theorem Hdrs.read {w : World} {base : Nat} {v : Value} {L : List Hdr} (h : Hdrs w base v L) : RHdrs w v L := by
  rcases RRow.of_own h with ⟨h1, h2, _⟩ | ⟨b, off, cap, h1, h2, h2', h3, h4⟩
  · exact .inl ⟨h1, List.eq_nil_of_length_eq_zero h2⟩
  · refine .inr ⟨b, off, cap, h1, h2, h2', h3, fun j hj => ⟨?_, ?_⟩⟩
    · exact h4 (j * 2) _ (flat_atH L j hj 0 (by decide))
    · exact h4 (j * 2 + 1) _ (flat_atH L j hj 1 (by decide))
theorem Hdrs.below {w w' : World} {base B : Nat} {v : Value} {L : List Hdr} (h : Hdrs w base v L) (hB : Below B w w') (hs : w.heap.size ≤ B) : Hdrs w' base v L := by
  refine ⟨h.1, ?_⟩
  rcases h.2 with hn | ⟨g, cap, cur, rfl, hb, hgg, rest⟩
  · exact .inl hn
  · refine .inr ⟨g, cap, cur, rfl, hb, ?_, rest⟩
    have hlt := (Array.getElem?_eq_some_iff.1 hgg).1
    rw [hB.block g (by omega)]; exact hgg
theorem Hdrs.set {w : World} {base : Nat} {v : Value} {L : List Hdr} (h : Hdrs w base v L) {p : Addr} (hp : p.block < base) (x : Value) : Hdrs (w.setCell p x) base v L :=
  ownsRow_setCell_below h hp x
theorem Hdrs.len {w : World} {base : Nat} {v : Value} {L : List Hdr} (h : Hdrs w base v L) : ∃ ao cap, v = .slice ao L.length cap ∧ (∀ a, ao = some a → base ≤ a.block) := by
  rcases h.2 with ⟨h1, h2⟩ | ⟨g, cap, _, h1, hb, _⟩
  · exact ⟨none, 0, by rw [h1, h2], fun a h => by cases h⟩
  · exact ⟨_, cap, h1, fun a h => by injection h with h; rw [← h]; exact hb⟩
theorem hdrs_len {w : World} {base : Nat} {v : Value} {L : List Hdr} (h : Hdrs w base v L) (ty : TypeId) (w' : World) :
    (Builtin.len_ #[33] ty #[v]).run Tryd.prog w' = .ok (goInt L.length) w' := by
  obtain ⟨ao, cap, rfl, _⟩ := h.len
  exact run_len_slice _ 33 ty ao L.length cap (show Tryd.prog.underlying 33 = some (.slice (Tryd.prog.elem 33)) by kernel_rfl)
theorem infoH : infoIs Tryd.prog 37 (.agg #[.string ⟨#[]⟩, .string ⟨#[]⟩]) 2 32 := by unfold infoIs; kernel_rfl
/-- a slice value that lies from block B on, or nowhere -/
def FreshH (B : Nat) (u : Value) : Prop := ∀ a n c, u = .slice (some a) n c → B ≤ a.block
theorem FreshH.mono {B B' : Nat} {u : Value} (h : FreshH B u) (hB : B' ≤ B) : FreshH B' u := fun a n c e => Nat.le_trans hB (h a n c e)
theorem Hdrs.fresh {w : World} {base : Nat} {v : Value} {L : List Hdr} (h : Hdrs w base v L) : FreshH base v := by
  obtain ⟨ao, cap, rfl, hb⟩ := h.len
  intro a n c e
  injection e with e _ _
  exact hb a e
theorem RHdrs.set {w : World} {B : Nat} {u : Value} {L : List Hdr} (h : RHdrs w u L) (hF : FreshH B u) {p : Addr} (hp : p.block < B) (x : Value) : RHdrs (w.setCell p x) u L := by
  rcases h with h | ⟨b, off, cap, h1, h2, h2', h3, h4⟩
  · exact .inl h
  · refine .inr ⟨b, off, cap, h1, h2, h2', by simpa using h3, fun j hj => ?_⟩
    have hne : B ≤ b := hF ⟨b, off, none⟩ _ _ h1
    have hk : ∀ o, (w.setCell p x).cell? ⟨b, o, none⟩ = w.cell? ⟨b, o, none⟩ := fun o => World.cell?_setCell_other w p ⟨b, o, none⟩ x (fun e => by rw [e] at hp; exact absurd hp (by show ¬ b < B; omega))
    rw [hk, hk]
    exact h4 j hj

section
variable {P : Program} {ops : Array Oper} {rest : List Oper} {o : Oper} {a : Act} {Q : Exit → Act → World → Prop}
theorem wpList_appH1 {wE w : World} {base : Nat} {t : TypeId} {v : Value} {L : List Hdr} {s x : Operand} {N V : ByteArray} (p : Hdr) (hN : us N = p.name) (hV : us V = p.value)
    (hgd : o.guard = none) (ho : o.op = .call { callee := .builtin .append, args := #[s, x], argTypes := #[t, t] })
    (ht : P.underlying t = some (.slice 37)) (hi : infoIs P 37 (.agg #[.string ⟨#[]⟩, .string ⟨#[]⟩]) 2 32)
    (hx : a.eval x = .slice (some ⟨w.heap.size, 0, none⟩) 1 1) (hs : a.eval s = v) (hown : Hdrs w base v L) (hB : Below base wE w) (hbase : base ≤ wE.heap.size)
    (hbd : (L.length + 1) * 32 ≤ 140737488355328)
    (hk : ∀ v' w', Hdrs w' base v' (L ++ [p]) → Below base wE w' → wpList P ops Q rest (a.put o.dst v') w') :
    wpList P ops Q (o :: rest) a (w.alloc (.cells #[.string N, .string V] 37)) := by
  refine wpList_app hgd ho ht hi rfl (by decide) hx hs hown hB hbase rfl (by simp; exact ⟨rfl, rfl⟩) (by decide) hbd ?_
  intro v' w' h1 h2 _ _
  refine hk v' w' ?_ h2
  unfold Hdrs
  have e : L.flatMap Hdr.cells ++ #[Value.string N, Value.string V].toList = (L ++ [p]).flatMap Hdr.cells := by
    rw [List.flatMap_append]; simp [Hdr.cells, sv, ← hN, ← hV]
  rw [← e, List.length_append]; exact h1
end

theorem Blk.f6 {w : World} {g : Nat} {t : TypeId} {a b c d e f : Value} (h : Blk w g t #[a, b, c, d, e, f]) :
    w.cell? ⟨g, 0, none⟩ = some a ∧ w.cell? ⟨g, 1, none⟩ = some b ∧ w.cell? ⟨g, 2, none⟩ = some c ∧ w.cell? ⟨g, 3, none⟩ = some d ∧ w.cell? ⟨g, 4, none⟩ = some e ∧ w.cell? ⟨g, 5, none⟩ = some f :=
  ⟨boxedCell h 0, boxedCell h 1, boxedCell h 2, boxedCell h 3, boxedCell h 4, boxedCell h 5⟩
theorem allS_step (H : List Hdr) (name : List UInt8) (k : Nat) (h : k < H.length) (L : List (List UInt8)) (hp : allS H name = L ++ allS (H.drop k) name) :
    allS H name = (if same H[k].name name = true then L ++ [H[k].value] else L) ++ allS (H.drop (k + 1)) name := by
  rw [hp, List.drop_eq_getElem_cons h]
  unfold allS
  rw [List.filter_cons]
  split <;> simp_all

set_option maxHeartbeats 3200000 in
theorem all_c' (M TG RS B : ByteArray) (X : Int) (u : Value) (H : List Hdr) (name : ByteArray) (hn : name.size ≤ 9223372036854775807) (w : World) (hu : RHdrs w u H) (hb : ∀ h ∈ H, h.name.length ≤ 9223372036854775807) (hH : H.length ≤ 4294967280) :
    Calls Tryd.prog 38 #[.agg #[.string M, .string TG, .int .i64 X, .string RS, u, .string B], .string name] w fun e w' => ∃ v, e = .returned v ∧ RStrs w' v (allS H (us name)) ∧ Below w.heap.size w w' := by
  obtain ⟨ao, cap, rfl, hm1, c1⟩ := hu.form
  have C1 := Lib.hid c1
  have HBD := Lib.hid hb
  clear c1 hu hb
  go_enter Tryd.func38, Tryd.ntmps38
  go_wp2
  obtain ⟨w0, hw0⟩ : ∃ w0, w0 = w.alloc (.cells #[.string M, .string TG, .int .i64 X, .string RS, .slice ao H.length cap, .string B] 35) := ⟨_, rfl⟩
  have hBw : Below w.heap.size w w0 := by rw [hw0]; exact (Below.refl _ _).alloc (Nat.le_refl _) _
  simp only [← hw0]
  clear hw0
  go_loopw [5, 11] (fun v i wr => ∃ (k : Nat) (L : List (List UInt8)), k ≤ H.length ∧ i = .int .i64 k ∧ Strs wr w0.heap.size 9 v L ∧ Below w0.heap.size w0 wr ∧ L.length ≤ k ∧ allS H (us name) = L ++ allS (H.drop k) (us name)) (fun _ i _ => H.length - (intOf i).toNat)
  case atStart => exact ⟨0, [], Nat.zero_le _, rfl, Strs.nil _ _ _, Below.refl _ _, Nat.le_refl _, rfl⟩
  case round =>
    obtain ⟨k, L, hk, rfl, hown, hB, hlk, hp⟩ := hrel
    have HP := Lib.hid hp; clear hp
    have hBr : Below w.heap.size w wr := hBw.trans (hB.mono hBw.size)
    by_cases hlt : k < H.length
    · obtain ⟨b, off, rfl, hb1, hc1⟩ := C1.out (by omega)
      have x0 : wr.cell? ⟨b, off + k * 2, none⟩ = some (.string (bs H[k].name)) := by
        rw [hBr.cell (p := ⟨b, off + k * 2, none⟩) hb1]; exact (hc1 k hlt).1
      have x1 : wr.cell? ⟨b, off + k * 2 + 1, none⟩ = some (.string (bs H[k].value)) := by
        rw [hBr.cell (p := ⟨b, off + k * 2 + 1, none⟩) hb1]; exact (hc1 k hlt).2
      have HS := Lib.hid (fun wx => same_c (bs H[k].name) name (by rw [size_bs]; exact HBD.out _ (List.getElem_mem _)) hn wx)
      rw [us_bs] at HS
      have hst := allS_step H (us name) k hlt L HP.out
      have k0 : (0 : Int) ≤ (k : Int) := by omega
      obtain ⟨N, hN⟩ : ∃ N, N = bs H[k].name := ⟨_, rfl⟩
      obtain ⟨V, hV⟩ : ∃ N, N = bs H[k].value := ⟨_, rfl⟩
      have hUV : us V = H[k].value := by rw [hV, us_bs]
      rw [← hN] at x0 HS
      rw [← hV] at x1
      have HUV := Lib.hid hUV
      clear hN hV hUV
      cases hs : same H[k].name (us name)
      · rw [hs] at HS hst
        have HN := Lib.hid hst
        clear hs hst
        go_wp2_with (go_at_call 27; refine (HS.out _).mono ?_; rintro e w2 ⟨rfl, hD⟩; obtain ⟨b14, hC2, _⟩ := newCall hD.below)
        go_roundw
        case rel => exact ⟨k + 1, L, by omega, by go_num, hown.below hC2 (Nat.le_refl _), hB.trans (hC2.mono hB.size), by omega, HN.out⟩
        case measure => simp [intOf]; omega
      · rw [hs] at HS hst
        have HN := Lib.hid hst
        clear hs hst
        go_wp2_with (first | (go_at_call 27; refine (HS.out _).mono ?_; rintro e w2 ⟨rfl, hD⟩; obtain ⟨b14, hC2, _⟩ := newCall hD.below; obtain ⟨n0, n1, _, _, _⟩ := b14.f2; have hown2 := hown.below hC2 (Nat.le_refl _); have hB2 := hB.trans (hC2.mono hB.size)) | (at_builtin; refine wpList_appS1 _ HUV.out rfl rfl Tryd.underlying56 infoS rfl rfl hown2 hB2 (Nat.le_refl _) ?_ ?_; (focus omega); intro v1 w3 ho1 hb1))
        go_roundw
        case rel => exact ⟨k + 1, _, by omega, by go_num, ho1, hb1, by rw [List.length_append]; simp; omega, HN.out⟩
        case measure => simp [intOf]; omega
    · have HE := Lib.hid (show allS H (us name) = L by rw [HP.out, List.drop_eq_nil_iff.2 (by omega)]; simp [allS])
      go_wp2
      go_ret
      exact ⟨_, rfl, by rw [HE.out]; exact hown.read, hBr⟩

set_option maxHeartbeats 3200000 in
theorem allR_c' (M TG RS B : ByteArray) (X : Int) (u : Value) (H : List Hdr) (name : ByteArray) (hn : name.size ≤ 140737488355328) (w : World) (hu : RHdrs w u H) (hb : ∀ h ∈ H, h.name.length ≤ 140737488355328) (hH : H.length ≤ 4294967280) :
    Calls Tryd.prog 39 #[.agg #[.string M, .string TG, .int .i64 X, .string RS, u, .string B], .string name] w fun e w' => ∃ v, e = .returned v ∧ RStrs w' v (allS H (us name)) ∧ Below w.heap.size w w' := by
  obtain ⟨ao, cap, rfl, hm1, c1⟩ := hu.form
  have C1 := Lib.hid c1
  have HBD := Lib.hid hb
  clear c1 hu hb
  go_enter Tryd.func39, Tryd.ntmps39
  go_wp2
  obtain ⟨w0, hw0⟩ : ∃ w0, w0 = w.alloc (.cells #[.string M, .string TG, .int .i64 X, .string RS, .slice ao H.length cap, .string B] 35) := ⟨_, rfl⟩
  have hBw : Below w.heap.size w w0 := by rw [hw0]; exact (Below.refl _ _).alloc (Nat.le_refl _) _
  have bm : Blk w0 w.heap.size 35 #[.string M, .string TG, .int .i64 X, .string RS, .slice ao H.length cap, .string B] := by rw [hw0]; exact Blk.new _ _ _
  have M4 := Lib.hid (fun (wx : World) (h : Below w0.heap.size w0 wx) => (boxedCell (bm.call h) 4 : wx.cell? ⟨w.heap.size, 4, none⟩ = some (.slice ao H.length cap)))
  simp only [← hw0]
  clear hw0 bm
  go_loopw [5, 6] (fun v i wr => ∃ (k : Nat) (L : List (List UInt8)), k ≤ H.length ∧ i = .int .i64 k ∧ Strs wr w0.heap.size 9 v L ∧ Below w0.heap.size w0 wr ∧ L.length ≤ k ∧ allS H (us name) = L ++ allS (H.drop k) (us name)) (fun _ i _ => H.length - (intOf i).toNat)
  case atStart => exact ⟨0, [], Nat.zero_le _, rfl, Strs.nil _ _ _, Below.refl _ _, Nat.le_refl _, rfl⟩
  case round =>
    obtain ⟨k, L, hk, rfl, hown, hB, hlk, hp⟩ := hrel
    have HP := Lib.hid hp; clear hp
    have m4 := M4.out wr hB
    have hBr : Below w.heap.size w wr := hBw.trans (hB.mono hBw.size)
    by_cases hlt : k < H.length
    · obtain ⟨b, off, rfl, hb1, hc1⟩ := C1.out (by omega)
      have x0 : wr.cell? ⟨b, off + k * 2, none⟩ = some (.string (bs H[k].name)) := by
        rw [hBr.cell (p := ⟨b, off + k * 2, none⟩) hb1]; exact (hc1 k hlt).1
      have x1 : wr.cell? ⟨b, off + k * 2 + 1, none⟩ = some (.string (bs H[k].value)) := by
        rw [hBr.cell (p := ⟨b, off + k * 2 + 1, none⟩) hb1]; exact (hc1 k hlt).2
      have XV := Lib.hid (fun (wx : World) (h : Below wr.heap.size wr wx) => (show wx.cell? ⟨b, off + k * 2 + 1, none⟩ = some (.string (bs H[k].value)) from by rw [h.cell (p := ⟨b, off + k * 2 + 1, none⟩) (Nat.lt_of_lt_of_le hb1 hBr.size)]; exact x1))
      have HS := Lib.hid (fun wx => sameR_c (bs H[k].name) name (by rw [size_bs]; exact HBD.out _ (List.getElem_mem _)) hn wx)
      rw [us_bs] at HS
      have hst := allS_step H (us name) k hlt L HP.out
      have k0 : (0 : Int) ≤ (k : Int) := by omega
      obtain ⟨N, hN⟩ : ∃ N, N = bs H[k].name := ⟨_, rfl⟩
      obtain ⟨V, hV⟩ : ∃ N, N = bs H[k].value := ⟨_, rfl⟩
      have hUV : us V = H[k].value := by rw [hV, us_bs]
      rw [← hN] at x0 HS
      rw [← hV] at x1 XV
      have HUV := Lib.hid hUV
      clear hN hV hUV
      cases hs : same H[k].name (us name)
      · rw [hs] at HS hst
        have HN := Lib.hid hst
        clear hs hst
        go_wp2_with (go_at_call 33; refine (HS.out _).mono ?_; rintro e w2 ⟨rfl, hC2⟩; have m4 := M4.out w2 (hB.trans (hC2.mono hB.size)))
        go_roundw
        case rel => exact ⟨k + 1, L, by omega, by go_num, hown.below hC2 (Nat.le_refl _), hB.trans (hC2.mono hB.size), by omega, HN.out⟩
        case measure => simp [intOf]; omega
      · rw [hs] at HS hst
        have HN := Lib.hid hst
        clear hs hst
        go_wp2_with (first | (go_at_call 33; refine (HS.out _).mono ?_; rintro e w2 ⟨rfl, hC2⟩; have m4 := M4.out w2 (hB.trans (hC2.mono hB.size)); have y1 := XV.out w2 hC2; have hown2 := hown.below hC2 (Nat.le_refl _); have hB2 := hB.trans (hC2.mono hB.size)) | (at_builtin; refine wpList_appS1 _ HUV.out rfl rfl Tryd.underlying56 infoS rfl rfl hown2 hB2 (Nat.le_refl _) ?_ ?_; (focus omega); intro v1 w3 ho1 hb1))
        go_roundw
        case rel => exact ⟨k + 1, _, by omega, by go_num, ho1, hb1, by rw [List.length_append]; simp; omega, HN.out⟩
        case measure => simp [intOf]; omega
    · have HE := Lib.hid (show allS H (us name) = L by rw [HP.out, List.drop_eq_nil_iff.2 (by omega)]; simp [allS])
      go_wp2
      go_ret
      exact ⟨_, rfl, by rw [HE.out]; exact hown.read, hBr⟩


end Go.Proofs.YtjohecbmeoalaaaDoor
