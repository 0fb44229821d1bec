/-
  Arguments opened: publications, by value and in slices.
-/
import Derived.Test.YtbljmjbialinkaaDoorTup
import Derived.Test.YtbljmjbialinkaaDoorOpen2
namespace Go.Proofs.YtbljmjbialinkaaDoor
set_option linter.unusedSimpArgs false
set_option linter.unusedVariables false
open Go.ChangeShapes Go.WideShapes Go.ChangeAt Go.RowKit Go.Deep Go.Joins

theorem list_of_eachB {α : Type} (P : Nat → α → Prop) : ∀ n, (∀ i, i < n → ∃ x, P i x) → ∃ L : List α, L.length = n ∧ ∀ j (hj : j < L.length), P j L[j]
  | 0, _ => ⟨[], rfl, fun j hj => absurd hj (Nat.not_lt_zero _)⟩
  | n + 1, h => by
    obtain ⟨L, hl, hL⟩ := list_of_eachB P n (fun i hi => h i (by omega))
    obtain ⟨x, hx⟩ := h n (by omega)
    refine ⟨L ++ [x], by rw [List.length_append, hl]; rfl, fun j hj => ?_⟩
    rw [List.length_append, List.length_singleton] at hj
    rcases Nat.lt_or_ge j L.length with h1 | h1
    · rw [List.getElem_append_left h1]; exact hL j h1
    · have : j = L.length := by omega
      subst this
      rw [List.getElem_concat_length rfl, hl]; exact hx
theorem i64_of_wfB {n : Int} (h : (Lit.int .i64 n).wf = true) : -9223372036854775808 ≤ n ∧ n ≤ 9223372036854775807 := by
  simp [Lit.wf, IntKind.min, IntKind.max, IntKind.signed, IntKind.bits] at h; omega
theorem array7 {α : Type} {cs : Array α} (h : cs.size = 7) : ∃ c0 c1 c2 c3 c4 c5 c6, cs = #[c0, c1, c2, c3, c4, c5, c6] := by
  obtain ⟨l⟩ := cs
  match l, h with
  | [c0, c1, c2, c3, c4, c5, c6], _ => exact ⟨c0, c1, c2, c3, c4, c5, c6, rfl⟩

section
variable {H : Type} {enc : TypeId × Value → H} {P : Program} {w : World} {base : Nat} {spare : Nat → Bool} {held : Bool}
theorem bulk_pos {H : Type} (d : DataW H) : 1 ≤ Rows.uptoBulk d := by
  cases d with
  | lit l => cases l <;> simp [Rows.uptoBulk]
  | _ => simp [Rows.uptoBulk]
theorem open_list {α : Type} {t e : TypeId} {fuel : Nat} {v : Value} {x : DataW H × List MemPlace} (s : Nat) (hs : 0 < s) (R : List Value → α → Prop) (Bd : Nat → α → Prop) (hmono : ∀ B B' a, Bd B a → B ≤ B' → Bd B' a)
    (ht : P.underlying t = some (.slice e)) (hC : P.cellsOf e = s) (each : ∀ fuel cs y, cs.length = s → DataW.trod enc P w base spare held fuel e cs = some y → ∃ q, R cs q ∧ Bd (Rows.uptoBulk y.1) q)
    (h : DataW.trod enc P w base spare held fuel t [v] = some x) :
    ∃ L : List α, (((∃ ao cap, v = .slice ao 0 cap) ∧ L = []) ∨ ∃ b off cap, v = .slice (some ⟨b, off, none⟩) L.length cap ∧ L.length ≤ cap ∧ cap ≤ maxLen ∧ b < w.heap.size ∧ ∀ j (hj : j < L.length), ∃ cs, cs.length = s ∧ R cs L[j] ∧ ∀ k, k < s → w.cell? ⟨b, off + (j * s + k), none⟩ = cs[k]?) ∧ (∀ q ∈ L, Bd (Rows.uptoBulk x.1) q) ∧ L.length ≤ Rows.uptoBulk x.1 := by
  rcases open_slice ht h with ⟨hcs, hx⟩ | ⟨a, len, cap, m, n, D, Pl, hcs, hb, hl, hm, hmm, hx, hi⟩
  · simp only [List.cons.injEq, and_true] at hcs
    subst hcs hx
    exact ⟨[], .inl ⟨⟨_, _, rfl⟩, rfl⟩, (fun p hp => by simp at hp), Nat.zero_le _⟩
  · simp only [List.cons.injEq, and_true] at hcs
    subst hcs
    have hlm : len ≤ m := by rw [hmm]; split <;> omega
    have each' : ∀ i, i < len → ∃ q : α, (∃ cs, cs.length = s ∧ R cs q ∧ ∀ k, k < s → w.cell? (a.add (i * s + k)) = cs[k]?) ∧ Bd (Rows.uptoBulk (D i)) q := by
      intro i him
      obtain ⟨cs', hc, ht'⟩ := hi i (by omega)
      rw [hC] at hc
      obtain ⟨_, hcl, hat⟩ := World.cells?_some hc
      obtain ⟨q, hR, hB⟩ := each _ cs' _ hcl ht'
      refine ⟨q, ⟨cs', hcl, hR, fun k hk => ?_⟩, hB⟩
      have := hat k hk
      rwa [add_add] at this
    have hx1 := congrArg Prod.fst hx
    dsimp only at hx1
    rw [hx1]
    rcases Nat.eq_zero_or_pos len with hz | hz
    · subst hz
      exact ⟨[], .inl ⟨⟨_, _, rfl⟩, rfl⟩, (fun p hp => by simp at hp), Nat.zero_le _⟩
    · obtain ⟨L, hL, hLP⟩ := list_of_eachB _ len each'
      obtain ⟨⟨cs0, hc0, _, hat0⟩, _⟩ := hLP 0 (by omega)
      have c0 := hat0 0 hs
      rw [Nat.zero_mul, Nat.zero_add, show a.add 0 = a from rfl, List.getElem?_eq_getElem (by omega)] at c0
      obtain ⟨ha, hblt⟩ := addr_of_cell c0
      obtain ⟨ab, ao, asp⟩ := a
      simp only [Addr.mk.injEq, true_and] at ha
      subst ha
      refine ⟨L, .inr ⟨ab, ao, cap, by rw [hL], by rw [hL]; exact hl, hm, hblt, fun j hj => ?_⟩, ?_, ?_⟩
      · obtain ⟨⟨cs, h1, h2, h3⟩, _⟩ := hLP j hj
        refine ⟨cs, h1, h2, fun k hk => ?_⟩
        have := h3 k hk
        rwa [add_at] at this
      · intro q hq
        obtain ⟨i, hi', rfl⟩ := List.getElem_of_mem hq
        obtain ⟨_, h5⟩ := hLP i hi'
        have h6 := bulk_mem ((List.range len).map D) (D i) (List.mem_map.2 ⟨i, List.mem_range.2 (by omega), rfl⟩)
        exact hmono _ _ _ h5 (by rw [Rows.uptoBulk]; omega)
      · have h7 := bulk_len ((List.range len).map D) (fun d _ => bulk_pos d)
        rw [List.length_map, List.length_range] at h7
        rw [hL, Rows.uptoBulk]; omega

theorem open_tup {t : TypeId} {f0 f1 f2 f3 f4 : Field} {c0 c1 c2 c3 c4 : Value} {fuel : Nat} {x : DataW H × List MemPlace} (hs : P.underlying t = some (.struct #[f0, f1, f2, f3, f4])) (hone : oneCellFields P #[f0, f1, f2, f3, f4] = true)
    (h0 : P.underlying f0.type = some .string) (h1 : P.underlying f1.type = some .bool) (h2 : P.underlying f2.type = some .string) (h3 : P.underlying f3.type = some (.int .i64)) (h4 : P.underlying f4.type = some .string)
    (h : DataW.trod enc P w base spare held fuel t [c0, c1, c2, c3, c4] = some x) :
    ∃ q : Tup, [c0, c1, c2, c3, c4] = rowT q ∧ TupBd (Rows.uptoBulk x.1) q := by
  obtain ⟨xs, n, _, hx, hl, hlen, hf⟩ := DataW.trod_struct hs h
  obtain ⟨o0, z0⟩ := hone_of hone 0 f0 rfl
  obtain ⟨o1, z1⟩ := hone_of hone 1 f1 rfl
  obtain ⟨o2, z2⟩ := hone_of hone 2 f2 rfl
  obtain ⟨o3, z3⟩ := hone_of hone 3 f3 rfl
  obtain ⟨o4, z4⟩ := hone_of hone 4 f4 rfl
  have q0 := hf 0 f0 rfl
  have q1 := hf 1 f1 rfl
  have q2 := hf 2 f2 rfl
  have q3 := hf 3 f3 rfl
  have q4 := hf 4 f4 rfl
  clear hf hone
  match xs, hlen with
  | [y0, y1, y2, y3, y4], _ =>
    replace q0 : DataW.trod enc P w base spare held n f0.type [c0] = some y0 := by simpa [o0, z0] using q0
    replace q1 : DataW.trod enc P w base spare held n f1.type [c1] = some y1 := by simpa [o1, z1] using q1
    replace q2 : DataW.trod enc P w base spare held n f2.type [c2] = some y2 := by simpa [o2, z2] using q2
    replace q3 : DataW.trod enc P w base spare held n f3.type [c3] = some y3 := by simpa [o3, z3] using q3
    replace q4 : DataW.trod enc P w base spare held n f4.type [c4] = some y4 := by simpa [o4, z4] using q4
    obtain ⟨S, e0, rfl, _⟩ := DataW.trod_string h0 q0
    obtain ⟨b, e1, rfl⟩ := DataW.trod_bool h1 q1
    obtain ⟨T, e2, rfl, _⟩ := DataW.trod_string h2 q2
    obtain ⟨m, e3, rfl, hw⟩ := DataW.trod_int h3 q3
    obtain ⟨U, e4, rfl, _⟩ := DataW.trod_string h4 q4
    simp only [List.cons.injEq, and_true] at e0 e1 e2 e3 e4
    have hd : Rows.uptoBulk x.1 = (S.size + 1) + (1 + ((T.size + 1) + (1 + ((U.size + 1) + 0)))) + 1 := by
      rw [hx]
      simp only [List.map_cons, List.map_nil, Rows.uptoBulk, Rows.uptoBulkAll, Array.length_toList]; rfl
    have hi := i64_of_wfB hw
    refine ⟨⟨us S, b, us T, m, us U⟩, ?_, ?_⟩
    · unfold rowT sv
      rw [e0, e1, e2, e3, e4, bs_us, bs_us, bs_us]
    · unfold TupBd
      dsimp only
      rw [length_us, length_us, length_us, hd]
      omega
theorem open_tups {t e : TypeId} {fuel : Nat} {v : Value} {x : DataW H × List MemPlace} {f0 f1 f2 f3 f4 : Field} (ht : P.underlying t = some (.slice e)) (he : P.underlying e = some (.struct #[f0, f1, f2, f3, f4])) (hone : oneCellFields P #[f0, f1, f2, f3, f4] = true) (hC : P.cellsOf e = 5)
    (h0 : P.underlying f0.type = some .string) (h1 : P.underlying f1.type = some .bool) (h2 : P.underlying f2.type = some .string) (h3 : P.underlying f3.type = some (.int .i64)) (h4 : P.underlying f4.type = some .string)
    (h : DataW.trod enc P w base spare held fuel t [v] = some x) : ∃ L, RTups w v L ∧ (∀ q ∈ L, TupBd (Rows.uptoBulk x.1) q) ∧ L.length ≤ Rows.uptoBulk x.1 := by
  obtain ⟨L, hL, hB, hN⟩ := open_list 5 (by decide) (fun cs q => cs = rowT q) TupBd (fun _ _ _ h hB => h.mono hB) ht hC (fun fuel cs y hl hh => by
    match cs, hl with
    | [c0, c1, c2, c3, c4], _ => exact open_tup he hone h0 h1 h2 h3 h4 hh) h
  refine ⟨L, ?_, hB, hN⟩
  rcases hL with ⟨h1, rfl⟩ | ⟨b, off, cap, h1, h2, h3, h4, h5⟩
  · exact .inl ⟨h1, rfl, rfl⟩
  · refine .inr ⟨b, off, cap, h1, h2, h3, h4, flat_cells rowT 5 rowT_len L (fun j => w.cell? ⟨b, off + j, none⟩) (fun i hi k hk => ?_)⟩
    obtain ⟨cs, _, e, h6⟩ := h5 i hi
    rw [← e]; exact h6 k hk
theorem open_strs0 {t e : TypeId} {v : Value} {fuel : Nat} {x : DataW H × List MemPlace} (ht : P.underlying t = some (.slice e)) (he : P.underlying e = some .string) (hc : P.cellsOf e = 1)
    (h : DataW.trod enc P w base spare held fuel t [v] = some x) : ∃ L, RStrs w v L ∧ (∀ q ∈ L, q.length ≤ Rows.uptoBulk x.1) ∧ L.length ≤ Rows.uptoBulk x.1 := by
  obtain ⟨L, hL, hB, hN⟩ := open_list 1 (by decide) (fun cs q => cs = [sv q]) (fun B q => q.length ≤ B) (fun _ _ _ h hB => Nat.le_trans h hB) ht hc (fun fuel cs y hl hh => by
    match cs, hl with
    | [c0], _ =>
      obtain ⟨S, e0, rfl, _⟩ := DataW.trod_string he hh
      simp only [List.cons.injEq, and_true] at e0
      refine ⟨us S, ?_, ?_⟩
      · unfold sv; rw [e0, bs_us]
      · rw [length_us, Rows.uptoBulk, Array.length_toList]; exact Nat.le_succ _) h
  refine ⟨L, ?_, hB, hN⟩
  rcases hL with ⟨h1, rfl⟩ | ⟨b, off, cap, h1, h2, h3, h4, h5⟩
  · exact .inl ⟨h1, rfl, rfl⟩
  · refine .inr ⟨b, off, cap, h1, h2, h3, h4, fun j u hj => ?_⟩
    have hjl : j < L.length := by have := (List.getElem?_eq_some_iff.1 hj).1; rwa [List.length_map] at this
    obtain ⟨cs, _, e, h6⟩ := h5 j hjl
    have := h6 0 (by decide)
    rw [Nat.mul_one, Nat.add_zero, e] at this
    rw [this, ← hj, List.getElem?_map, List.getElem?_eq_getElem hjl]; rfl

/-- what a publication's cells are -/
def PubCs (w : World) (cs : List Value) (p : Pb) : Prop :=
  ∃ (S T : ByteArray) (n : Int) (u1 u2 : Value), cs = [.int .i64 p.num, .string S, .string T, .int .i64 n, sv p.doc.ent, u1, u2] ∧ RTups w u1 p.doc.tups ∧ RStrs w u2 p.doc.notes
theorem DocBd.mono {B B' : Nat} {d : Doc} (h : DocBd B d) (hB : B ≤ B') : DocBd B' d :=
  ⟨Nat.le_trans h.1 hB, fun t ht => (h.2.1 t ht).mono hB, fun n hn => Nat.le_trans (h.2.2 n hn) hB⟩
/-- .. and of few parts -/
def PubSz (B : Nat) (p : Pb) : Prop := PubBd B p ∧ p.doc.tups.length ≤ B ∧ p.doc.notes.length ≤ B
theorem PubBd.mono {B B' : Nat} {p : Pb} (h : PubBd B p) (hB : B ≤ B') : PubBd B' p := ⟨h.1, h.2.mono hB⟩
theorem open_pub {t te tt : TypeId} {a0 a1 a2 a3 a4 d0 d1 d2 f0 f1 f2 f3 f4 : Field} {c0 c1 c2 c3 c4 c5 c6 : Value} {fuel : Nat} {x : DataW H × List MemPlace}
    (hs : P.underlying t = some (.struct #[a0, a1, a2, a3, a4]))
    (oa : (a0.offset = 0 ∧ P.cellsOf a0.type = 1 ∧ a1.offset = 1 ∧ P.cellsOf a1.type = 1 ∧ a2.offset = 2 ∧ P.cellsOf a2.type = 1) ∧ a3.offset = 3 ∧ P.cellsOf a3.type = 1 ∧ a4.offset = 4 ∧ P.cellsOf a4.type = 3)
    (r0 : P.underlying a0.type = some (.int .i64)) (r1 : P.underlying a1.type = some .string) (r2 : P.underlying a2.type = some .string) (r3 : P.underlying a3.type = some (.int .i64))
    (hd : P.underlying a4.type = some (.struct #[d0, d1, d2])) (hdone : oneCellFields P #[d0, d1, d2] = true) (s0 : P.underlying d0.type = some .string) (s1 : P.underlying d1.type = some (.slice tt)) (s2 : P.underlying d2.type = some (.slice te)) (hte : P.underlying te = some .string) (hce : P.cellsOf te = 1)
    (he : P.underlying tt = some (.struct #[f0, f1, f2, f3, f4])) (hone : oneCellFields P #[f0, f1, f2, f3, f4] = true) (hC : P.cellsOf tt = 5)
    (h0 : P.underlying f0.type = some .string) (h1 : P.underlying f1.type = some .bool) (h2 : P.underlying f2.type = some .string) (h3 : P.underlying f3.type = some (.int .i64)) (h4 : P.underlying f4.type = some .string)
    (h : DataW.trod enc P w base spare held fuel t [c0, c1, c2, c3, c4, c5, c6] = some x) :
    ∃ p : Pb, PubCs w [c0, c1, c2, c3, c4, c5, c6] p ∧ PubSz (Rows.uptoBulk x.1) p := by
  obtain ⟨xs, n, _, hx, hl, hlen, hf⟩ := DataW.trod_struct hs h
  obtain ⟨⟨o0, z0, o1, z1, o2, z2⟩, o3, z3, o4, z4⟩ := oa
  have q0 := hf 0 a0 rfl
  have q1 := hf 1 a1 rfl
  have q2 := hf 2 a2 rfl
  have q3 := hf 3 a3 rfl
  have q4 := hf 4 a4 rfl
  clear hf
  match xs, hlen with
  | [y0, y1, y2, y3, y4], _ =>
    replace q0 : DataW.trod enc P w base spare held n a0.type [c0] = some y0 := by simpa [o0, z0] using q0
    replace q1 : DataW.trod enc P w base spare held n a1.type [c1] = some y1 := by simpa [o1, z1] using q1
    replace q2 : DataW.trod enc P w base spare held n a2.type [c2] = some y2 := by simpa [o2, z2] using q2
    replace q3 : DataW.trod enc P w base spare held n a3.type [c3] = some y3 := by simpa [o3, z3] using q3
    replace q4 : DataW.trod enc P w base spare held n a4.type [c4, c5, c6] = some y4 := by simpa [o4, z4] using q4
    obtain ⟨m, e0, rfl, hw⟩ := DataW.trod_int r0 q0
    obtain ⟨S, e1, rfl, _⟩ := DataW.trod_string r1 q1
    obtain ⟨T, e2, rfl, _⟩ := DataW.trod_string r2 q2
    obtain ⟨k, e3, rfl, _⟩ := DataW.trod_int r3 q3
    obtain ⟨zs, n2, _, hz, hl2, hlen2, hf2⟩ := DataW.trod_struct hd q4
    obtain ⟨p0, k0⟩ := hone_of hdone 0 d0 rfl
    obtain ⟨p1, k1⟩ := hone_of hdone 1 d1 rfl
    obtain ⟨p2, k2⟩ := hone_of hdone 2 d2 rfl
    have g0 := hf2 0 d0 rfl
    have g1 := hf2 1 d1 rfl
    have g2 := hf2 2 d2 rfl
    clear hf2
    match zs, hlen2 with
    | [z0', z1', z2'], _ =>
      replace g0 : DataW.trod enc P w base spare held n2 d0.type [c4] = some z0' := by simpa [p0, k0] using g0
      replace g1 : DataW.trod enc P w base spare held n2 d1.type [c5] = some z1' := by simpa [p1, k1] using g1
      replace g2 : DataW.trod enc P w base spare held n2 d2.type [c6] = some z2' := by simpa [p2, k2] using g2
      obtain ⟨E, e4, rfl, _⟩ := DataW.trod_string s0 g0
      obtain ⟨L, hL, bL, nL⟩ := open_tups s1 he hone hC h0 h1 h2 h3 h4 g1
      obtain ⟨M, hM, bM, nM⟩ := open_strs0 s2 hte hce g2
      simp only [List.cons.injEq, and_true] at e0 e1 e2 e3 e4
      have hd4 : Rows.uptoBulk y4.1 = (E.size + 1) + (Rows.uptoBulk z1'.1 + (Rows.uptoBulk z2'.1 + 0)) + 1 := by
        rw [hz]
        simp only [List.map_cons, List.map_nil, Rows.uptoBulk, Rows.uptoBulkAll, Array.length_toList]; rfl
      have hdx : Rows.uptoBulk x.1 = 1 + ((S.size + 1) + ((T.size + 1) + (1 + (Rows.uptoBulk y4.1 + 0)))) + 1 := by
        rw [hx]
        simp only [List.map_cons, List.map_nil, Rows.uptoBulk, Rows.uptoBulkAll, Array.length_toList]; rfl
      refine ⟨⟨m, ⟨us E, L, M⟩⟩, ⟨S, T, k, c5, c6, ?_, hL, hM⟩, ⟨i64_of_wfB hw, ?_, fun t ht => (bL t ht).mono (by omega), fun n hn => Nat.le_trans (bM n hn) (by omega)⟩, Nat.le_trans nL (by omega), Nat.le_trans nM (by omega)⟩
      · unfold sv
        rw [e0, e1, e2, e3, e4, bs_us]
      · dsimp only; rw [length_us]; omega
theorem PubSz.mono {B B' : Nat} {p : Pb} (h : PubSz B p) (hB : B ≤ B') : PubSz B' p := ⟨h.1.mono hB, Nat.le_trans h.2.1 hB, Nat.le_trans h.2.2 hB⟩
theorem PubCs.at {w : World} {cs : List Value} {p : Pb} {b o : Nat} (h : PubCs w cs p) (hc : ∀ k, k < 7 → w.cell? ⟨b, o + k, none⟩ = cs[k]?) : PubAt w b o p := by
  obtain ⟨S, T, n, u1, u2, rfl, h1, h2⟩ := h
  exact ⟨hc 0 (by decide), ⟨S, hc 1 (by decide)⟩, ⟨T, hc 2 (by decide)⟩, ⟨n, hc 3 (by decide)⟩, hc 4 (by decide), u1, u2, hc 5 (by decide), hc 6 (by decide), h1, h2⟩
end

section
variable {H : Type} {enc : TypeId × Value → H} {w : World} {base : Nat} {spare : Nat → Bool} {held : Bool}
set_option maxRecDepth 100000 in
theorem open_pub0 {c0 c1 c2 c3 c4 c5 c6 : Value} {fuel : Nat} {x : DataW H × List MemPlace} (h : DataW.trod enc Tryd.prog w base spare held fuel 27 [c0, c1, c2, c3, c4, c5, c6] = some x) :
    ∃ p : Pb, PubCs w [c0, c1, c2, c3, c4, c5, c6] p ∧ PubSz (Rows.uptoBulk x.1) p :=
  open_pub Tryd.underlying27 (by refine ⟨⟨?_, ?_, ?_, ?_, ?_, ?_⟩, ?_, ?_, ?_, ?_⟩ <;> kernel_rfl) Tryd.underlying3 Tryd.underlying9 Tryd.underlying9 Tryd.underlying3 Tryd.underlying25 (by kernel_rfl) Tryd.underlying9 Tryd.underlying22 Tryd.underlying23 Tryd.underlying9 (by kernel_rfl)
    Tryd.underlying39 (by kernel_rfl) (by kernel_rfl) Tryd.underlying9 Tryd.underlying4 Tryd.underlying9 Tryd.underlying3 Tryd.underlying9 h
set_option maxRecDepth 100000 in
theorem open_apub {v : Value} {d : DataW H} {p : List MemPlace} {r : Reach} {b0 : Nat} (hv : Value.okWide Tryd.prog w r b0 27 v) (h : DataW.Trod enc Tryd.prog w base spare held 27 v d p) :
    ∃ q : Pb, (∃ cs : Array Value, v = .agg cs ∧ PubCs w cs.toList q) ∧ PubSz (Rows.uptoBulk d) q := by
  obtain ⟨cs, rfl, hsz⟩ := okWide_struct Tryd.underlying27 hv
  obtain ⟨c0, c1, c2, c3, c4, c5, c6, rfl⟩ := array7 (hsz.trans (by kernel_rfl))
  obtain ⟨fuel, hf⟩ := h
  obtain ⟨q, h1, h2⟩ := open_pub0 hf
  exact ⟨q, ⟨_, rfl, h1⟩, h2⟩
set_option maxRecDepth 100000 in
theorem open_pubs {v : Value} {d : DataW H} {p : List MemPlace} {r : Reach} {b0 : Nat} (hv : Value.okWide Tryd.prog w r b0 31 v) (h : DataW.Trod enc Tryd.prog w base spare held 31 v d p) :
    ∃ L, RPubs w v L ∧ (∀ q ∈ L, PubSz (Rows.uptoBulk d) q) ∧ L.length ≤ Rows.uptoBulk d := by
  obtain ⟨z0, len0, cap0, rfl⟩ := okWide_slice Tryd.underlying31 hv
  obtain ⟨fuel, hf⟩ := h
  obtain ⟨L, hL, hB, hN⟩ := open_list 7 (by decide) (PubCs w) PubSz (fun _ _ _ h hB => h.mono hB) Tryd.underlying31 (by kernel_rfl) (fun fuel cs y hl hh => by
    match cs, hl with
    | [c0, c1, c2, c3, c4, c5, c6], _ => exact open_pub0 hh) hf
  refine ⟨L, ?_, hB, hN⟩
  rcases hL with h1 | ⟨b, off, cap, h1, h2, h3, h4, h5⟩
  · exact .inl h1
  · refine .inr ⟨b, off, cap, h1, h2, h3, h4, fun j hj => ?_⟩
    obtain ⟨cs, _, h6, h7⟩ := h5 j hj
    exact h6.at (fun k hk => by rw [Nat.add_assoc]; exact h7 k hk)
end

end Go.Proofs.YtbljmjbialinkaaDoor
