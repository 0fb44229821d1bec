/-
  Addresses as rows of eight cells, read and of the call's own.
-/
import Derived.Test.YtjpmfcipjaeemaaDoorSme
namespace Go.Proofs.YtjpmfcipjaeemaaDoor
set_option linter.unusedSimpArgs false
set_option linter.unusedVariables false
open Go.RowKit

/-- a slice of addresses that reads as L -/
def RAdrs (w : World) (v : Value) (L : List Adr) : Prop :=
  ((∃ ao cap, v = .slice ao 0 cap) ∧ L = []) ∨
  ∃ b off cap, v = .slice (some ⟨b, off, none⟩) L.length cap ∧ L.length ≤ cap ∧ cap ≤ maxLen ∧ b < w.heap.size ∧
    ∀ j (hj : j < L.length), w.cell? ⟨b, off + j * 8, none⟩ = some (sv L[j].disp) ∧ w.cell? ⟨b, off + j * 8 + 1, none⟩ = some (sv L[j].uri.scheme) ∧ w.cell? ⟨b, off + j * 8 + 2, none⟩ = some (sv L[j].uri.user) ∧ w.cell? ⟨b, off + j * 8 + 3, none⟩ = some (sv L[j].uri.host) ∧ w.cell? ⟨b, off + j * 8 + 4, none⟩ = some (.int .i64 L[j].uri.port) ∧ ∃ u1 u2 u3, w.cell? ⟨b, off + j * 8 + 5, none⟩ = some u1 ∧ w.cell? ⟨b, off + j * 8 + 6, none⟩ = some u2 ∧ w.cell? ⟨b, off + j * 8 + 7, none⟩ = some u3 ∧ RPrms w u1 L[j].uri.ps ∧ RPrms w u2 L[j].uri.hs ∧ RPrms w u3 L[j].ps
theorem RAdrs.below {w w' : World} {B : Nat} {v : Value} {L : List Adr} (h : RAdrs w v L) (hB : Below B w w') (hs : w.heap.size ≤ B) : RAdrs w' v L := by
  rcases h with h | ⟨b, off, cap, h1, h2, h2', h3, h4⟩
  · exact .inl h
  · refine .inr ⟨b, off, cap, h1, h2, h2', Nat.lt_of_lt_of_le h3 hB.size, fun j hj => ?_⟩
    obtain ⟨a0, a1, a2, a3, a4, u1, u2, u3, a5, a6, a7, k1, k2, k3⟩ := h4 j hj
    have hb : b < B := by omega
    rw [hB.cell (p := ⟨b, off + j * 8, none⟩) hb, hB.cell (p := ⟨b, off + j * 8 + 1, none⟩) hb, hB.cell (p := ⟨b, off + j * 8 + 2, none⟩) hb, hB.cell (p := ⟨b, off + j * 8 + 3, none⟩) hb, hB.cell (p := ⟨b, off + j * 8 + 4, none⟩) hb, hB.cell (p := ⟨b, off + j * 8 + 5, none⟩) hb, hB.cell (p := ⟨b, off + j * 8 + 6, none⟩) hb, hB.cell (p := ⟨b, off + j * 8 + 7, none⟩) hb]
    exact ⟨a0, a1, a2, a3, a4, u1, u2, u3, a5, a6, a7, k1.below hB hs, k2.below hB hs, k3.below hB hs⟩
theorem RAdrs.form {w : World} {v : Value} {L : List Adr} (h : RAdrs w v L) : ∃ ao cap, v = .slice ao L.length cap ∧ L.length ≤ maxLen ∧
    (0 < L.length → ∃ b off, ao = some ⟨b, off, none⟩ ∧ b < w.heap.size ∧ ∀ j (hj : j < L.length), w.cell? ⟨b, off + j * 8, none⟩ = some (sv L[j].disp) ∧ w.cell? ⟨b, off + j * 8 + 1, none⟩ = some (sv L[j].uri.scheme) ∧ w.cell? ⟨b, off + j * 8 + 2, none⟩ = some (sv L[j].uri.user) ∧ w.cell? ⟨b, off + j * 8 + 3, none⟩ = some (sv L[j].uri.host) ∧ w.cell? ⟨b, off + j * 8 + 4, none⟩ = some (.int .i64 L[j].uri.port) ∧ ∃ u1 u2 u3, w.cell? ⟨b, off + j * 8 + 5, none⟩ = some u1 ∧ w.cell? ⟨b, off + j * 8 + 6, none⟩ = some u2 ∧ w.cell? ⟨b, off + j * 8 + 7, none⟩ = some u3 ∧ RPrms w u1 L[j].uri.ps ∧ RPrms w u2 L[j].uri.hs ∧ RPrms w u3 L[j].ps) := by
  rcases h with ⟨⟨ao, cap, rfl⟩, rfl⟩ | ⟨b, off, cap, rfl, h2, h2', h3, h4⟩
  · exact ⟨ao, cap, rfl, Nat.zero_le _, fun h => by simp at h⟩
  · exact ⟨some ⟨b, off, none⟩, cap, rfl, Nat.le_trans h2 h2', fun _ => ⟨b, off, rfl, h3, h4⟩⟩
theorem RAdrs.nil (w : World) : RAdrs w (.slice none 0 0) [] := .inl ⟨⟨_, _, rfl⟩, rfl⟩

theorem cell_heapA {w w' : World} {b : Nat} (h : w'.heap[b]? = w.heap[b]?) (o : Nat) : w'.cell? ⟨b, o, none⟩ = w.cell? ⟨b, o, none⟩ := by
  unfold World.cell?; rw [h]
/-- parameters that lie in a block that stands as it stood -/
theorem RPrms.heapA {w w' : World} {u : Value} {L : List Prm} (h : RPrms w u L) (hs : w.heap.size ≤ w'.heap.size) (hb : L ≠ [] → ∀ a n c, u = .slice (some a) n c → a.block < w.heap.size → w'.heap[a.block]? = w.heap[a.block]?) : RPrms w' u L := by
  rcases h with h | ⟨b, off, cap, h1, h2, h2', h3, h4⟩
  · exact .inl h
  · by_cases hL : L = []
    · subst hL
      exact .inl ⟨⟨_, _, h1⟩, rfl⟩
    · refine .inr ⟨b, off, cap, h1, h2, h2', Nat.lt_of_lt_of_le h3 hs, fun j hj => ?_⟩
      have e := hb hL _ _ _ h1 h3
      rw [cell_heapA e, cell_heapA e, cell_heapA e]
      exact h4 j hj


abbrev AdrU := Adr × (Value × Value × Value)
def rowA (r : AdrU) : List Value := [sv r.1.disp, sv r.1.uri.scheme, sv r.1.uri.user, sv r.1.uri.host, .int .i64 r.1.uri.port, r.2.1, r.2.2.1, r.2.2.2]
def FreeA (v u : Value) (L : List Prm) : Prop := L ≠ [] → ∀ a n c, u = .slice (some a) n c → v.ownBlock ≠ some a.block
def AdrU.ok (w : World) (v : Value) (r : AdrU) : Prop := (RPrms w r.2.1 r.1.uri.ps ∧ RPrms w r.2.2.1 r.1.uri.hs ∧ RPrms w r.2.2.2 r.1.ps) ∧ FreeA v r.2.1 r.1.uri.ps ∧ FreeA v r.2.2.1 r.1.uri.hs ∧ FreeA v r.2.2.2 r.1.ps
/-- a slice of addresses of the call's own; each beside the slices of its parameters, which lie in other blocks -/
def Adrs (w : World) (base : Nat) (v : Value) (R : List AdrU) : Prop :=
  w.ownsRow base 39 8 v R.length (R.flatMap rowA) ∧ ∀ r ∈ R, r.ok w v
theorem Adrs.nil (w : World) (base : Nat) : Adrs w base (.slice none 0 0) [] := ⟨World.ownsRow_nil w base _ 8, fun r hr => by cases hr⟩
theorem flat_atA : ∀ (L : List AdrU) (j : Nat) (hj : j < L.length) (i : Nat), i < 8 → (L.flatMap rowA)[j * 8 + i]? = (rowA L[j])[i]?
  | p :: r, 0, _, i, hi => by
    rw [List.flatMap_cons, Nat.zero_mul, Nat.zero_add, List.getElem?_append_left (by simpa [rowA] using hi)]; rfl
  | p :: r, j + 1, hj, i, hi => by
    rw [List.flatMap_cons, List.getElem?_append_right (by simp [rowA]; omega)]
    have : (j + 1) * 8 + i - (rowA p).length = j * 8 + i := by simp [rowA]; omega
    rw [this]
    exact flat_atA r j (by simpa using hj) i hi
theorem Adrs.read {w : World} {base : Nat} {v : Value} {R : List AdrU} (h : Adrs w base v R) : RAdrs w v (R.map Prod.fst) := by
  rcases RRow.of_own h.1 with ⟨h1, h2, _⟩ | ⟨b, off, cap, h1, h2, h2', h3, h4⟩
  · exact .inl ⟨h1, by rw [List.eq_nil_of_length_eq_zero h2]; rfl⟩
  · refine .inr ⟨b, off, cap, by rw [List.length_map]; exact h1, by rw [List.length_map]; exact h2, h2', h3, fun j hj => ?_⟩
    rw [List.length_map] at hj
    rw [List.getElem_map]
    obtain ⟨⟨g1, g2, g3⟩, _⟩ := h.2 _ (List.getElem_mem hj)
    exact ⟨h4 (j * 8) _ (flat_atA R j hj 0 (by decide)), h4 (j * 8 + 1) _ (flat_atA R j hj 1 (by decide)), h4 (j * 8 + 2) _ (flat_atA R j hj 2 (by decide)), h4 (j * 8 + 3) _ (flat_atA R j hj 3 (by decide)), h4 (j * 8 + 4) _ (flat_atA R j hj 4 (by decide)), R[j].2.1, R[j].2.2.1, R[j].2.2.2, h4 (j * 8 + 5) _ (flat_atA R j hj 5 (by decide)), h4 (j * 8 + 6) _ (flat_atA R j hj 6 (by decide)), h4 (j * 8 + 7) _ (flat_atA R j hj 7 (by decide)), g1, g2, g3⟩
theorem Adrs.below {w w' : World} {base B : Nat} {v : Value} {R : List AdrU} (h : Adrs w base v R) (hB : Below B w w') (hs : w.heap.size ≤ B) : Adrs w' base v R := by
  refine ⟨⟨h.1.1, ?_⟩, fun r hr => ⟨⟨(h.2 r hr).1.1.below hB hs, (h.2 r hr).1.2.1.below hB hs, (h.2 r hr).1.2.2.below hB hs⟩, (h.2 r hr).2⟩⟩
  rcases h.1.2 with hn | ⟨g, cap, cur, rfl, hb, hgg, rest⟩
  · exact .inl hn
  · refine .inr ⟨g, cap, cur, rfl, hb, ?_, rest⟩
    have hlt := (Array.getElem?_eq_some_iff.1 hgg).1
    rw [hB.block g (by omega)]; exact hgg
theorem Adrs.lt {w : World} {base : Nat} {v : Value} {R : List AdrU} (h : Adrs w base v R) : ∀ k, v.ownBlock = some k → k < w.heap.size := by
  intro k hk
  rcases h.1.2 with ⟨rfl, _⟩ | ⟨g, cap, cur, rfl, hb, hgg, rest⟩
  · simp [Value.ownBlock] at hk
  · have e : g = k := by simpa [Value.ownBlock] using hk
    subst e
    exact (Array.getElem?_eq_some_iff.1 hgg).1
theorem Adrs.free {w wx : World} {base : Nat} {v u : Value} {R : List AdrU} {q : List Prm} (h : Adrs w base v R) (hF : Fresh wx.heap.size u) (hs : w.heap.size ≤ wx.heap.size) : FreeA v u q := by
  intro _ a n c e e2
  have h1 := h.lt _ e2
  have h2 := hF a n c e
  omega
theorem infoA : infoIs Tryd.prog 39 (.agg #[.string ⟨#[]⟩, .string ⟨#[]⟩, .string ⟨#[]⟩, .string ⟨#[]⟩, .int .i64 0, .slice none 0 0, .slice none 0 0, .slice none 0 0]) 8 144 := by unfold infoIs; kernel_rfl

section
variable {P : Program} {ops : Array Oper} {rest : List Oper} {o : Oper} {a : Act} {Q : Exit → Act → World → Prop}
/-- append of one that is read, to a row of the call's own: the row's block is the old one or a new one -/
theorem run_app_blkA (w : World) (base : Nat) (t ty e : TypeId) (i : TypeInfo) (z : Value) (size bytes : Nat) (ht : P.underlying t = some (.slice e)) (hi : P.info? e = some i) (hz : i.zero = some z)
    (hsize : i.size = size) (hby : i.bytes = bytes) (hzs : z.cells.size = size) (hsz : 0 < size)
    (v : Value) (n : Nat) (xs : List Value) (hown : w.ownsRow base e size v n xs)
    (ad : Addr) (m c : Nat) (news : List Value) (hl : news.length = m * size) (hnews : ∀ j u, news[j]? = some u → w.cell? (ad.add j) = some u) (h1 : ∀ u ∈ news, u.oneCell' = true) (hm : 0 < m)
    (h63 : n + m ≤ maxLen) (hbytes : (n + m) * bytes ≤ 140737488355328) (hbase : base ≤ w.heap.size) :
    ∃ v' w', (Builtin.append_ #[t, t] ty #[v, .slice (some ad) m c]).run P w = .ok v' w' ∧ w'.ownsRow base e size v' (n + m) (xs ++ news) ∧ w.grownBy w' v.ownBlock ∧ (v'.ownBlock = v.ownBlock ∨ v'.ownBlock = some w.heap.size) := by
  obtain ⟨v', w', hr, h2, h3, _⟩ := run_append_own (P := P) w base t ty e i z size bytes ht hi hz hsize hby hzs hsz v n xs hown ad m c news hl hnews h1 h63 hbytes hbase
  refine ⟨v', w', hr, h2, h3, ?_⟩
  subst hsize
  subst hby
  have hsmall : n + m ≤ 9223372036854775807 := by simp only [maxLen] at h63; omega
  rcases hown.2 with ⟨rfl, rfl⟩ | ⟨g, cap, cur, rfl, hbg, hg, hnc, hcm, hcs, htake⟩
  · have hr2 := run_append_nil (P := P) w t ty e i z ht hi hz ad m c news hl hnews hm (by omega) (by have hb := hbytes; simp only [Nat.zero_add] at hb; omega)
    rw [hr] at hr2
    injection hr2 with e1 e2
    exact .inr (by rw [e1]; rfl)
  · by_cases hroom : n + m ≤ cap
    · have hfit : n * i.size + news.length ≤ cur.size := by rw [hl, hcs, ← Nat.add_mul]; exact Nat.mul_le_mul_right _ hroom
      have hr2 := run_append_room (P := P) w t ty e i ht hi g n cap cur hg ad m c news hl hnews h1 hroom hfit
      rw [hr] at hr2
      injection hr2 with e1 e2
      exact .inl (by rw [e1]; rfl)
    · have holds : ∀ j u, xs[j]? = some u → w.cell? ((⟨g, 0, none⟩ : Addr).add j) = some u := hown.cells (g := g) rfl
      have hr2 := run_append_grow (P := P) w t ty e i z ht hi hz ⟨g, 0, none⟩ n cap xs hown.1 holds ad m c news hl hnews (by omega) (by omega) (growslice_fits (by omega) hbytes)
      rw [hr] at hr2
      injection hr2 with e1 e2
      exact .inr (by rw [e1]; rfl)

/-- append of one address that has just been laid -/
theorem op_appA {K : Act → World → Prop} {wE w : World} {base : Nat} {t : TypeId} {v u1 u2 u3 : Value} {R : List AdrU} {s x : Operand} {D S U H : ByteArray} {n : Int} {F G L : List Prm}
    (ho : o.op = .call { callee := .builtin .append, args := #[s, x], argTypes := #[t, t] })
    (ht : P.underlying t = some (.slice 39)) (hi : infoIs P 39 (.agg #[.string ⟨#[]⟩, .string ⟨#[]⟩, .string ⟨#[]⟩, .string ⟨#[]⟩, .int .i64 0, .slice none 0 0, .slice none 0 0, .slice none 0 0]) 8 144)
    (hx : a.eval x = .slice (some ⟨w.heap.size, 0, none⟩) 1 1) (hs : a.eval s = v) (hown : Adrs w base v R) (hu1 : RPrms w u1 F) (hu2 : RPrms w u2 G) (hu3 : RPrms w u3 L) (hb1 : FreeA v u1 F) (hb2 : FreeA v u2 G) (hb3 : FreeA v u3 L) (hB : Below base wE w) (hbase : base ≤ wE.heap.size)
    (hbd : (R.length + 1) * 144 ≤ 140737488355328)
    (hk : ∀ v' w', Adrs w' base v' (R ++ [((⟨us D, ⟨us S, us U, us H, n, F, G⟩, L⟩ : Adr), (u1, u2, u3))]) → Below base wE w' → K (a.put o.dst v') w') :
    o.wp P a (w.alloc (.cells #[.string D, .string S, .string U, .string H, .int .i64 n, u1, u2, u3] 39)) K Q := by
  obtain ⟨i, hi0, hi1, hi2, hi3⟩ := info_parts hi
  have hsz2 := hB.size
  obtain ⟨ao, ca, e1, _⟩ := hu1.form
  obtain ⟨bo, cb, e2, _⟩ := hu2.form
  obtain ⟨co, cc, e3, _⟩ := hu3.form
  have hone : ∀ x ∈ (#[Value.string D, Value.string S, Value.string U, Value.string H, Value.int .i64 n, u1, u2, u3] : Array Value).toList, x.oneCell' = true := by
    subst e1 e2 e3; simp; exact ⟨rfl, rfl, rfl, rfl, rfl, rfl, rfl, rfl⟩
  obtain ⟨v', w', hr, h2, h3, h4⟩ := run_app_blkA (P := P) (w.alloc (.cells #[.string D, .string S, .string U, .string H, .int .i64 n, u1, u2, u3] 39)) base t o.type 39 i _ 8 144 ht hi0 hi1 hi2 hi3 rfl (by decide) v R.length (R.flatMap rowA) (hown.1.alloc _)
    ⟨w.heap.size, 0, none⟩ 1 1 (#[Value.string D, Value.string S, Value.string U, Value.string H, Value.int .i64 n, u1, u2, u3] : Array Value).toList rfl (by
      intro j x hj
      have hadd : (⟨w.heap.size, 0, none⟩ : Addr).add j = ⟨w.heap.size, j, none⟩ := by unfold Addr.add; split <;> simp_all
      rw [hadd, World.cell?_alloc_at _ _ _ _ rfl]
      simpa using hj) hone (by decide) (by simp only [maxLen]; omega) hbd (by simp; omega)
  have hB' : Below base wE (w.alloc (.cells #[.string D, .string S, .string U, .string H, .int .i64 n, u1, u2, u3] 39)) := hB.alloc (by omega) _
  have hpr : ∀ (y : Value) (L : List Prm), RPrms w y L → FreeA v y L → RPrms w' y L := by
    intro y L hy hne
    have hs' := h3.size
    rw [World.size_alloc] at hs'
    refine hy.heapA (by omega) fun hL a n c e hlt => ?_
    rw [h3.block a.block (by rw [World.size_alloc]; omega) (fun e2 => hne hL a n c e e2.symm), Below.heap_alloc _ _ _ hlt]
  have hbl : ∀ (y : Value) (L : List Prm), RPrms w y L → FreeA v y L → FreeA v' y L := by
    intro y L hy hne hL a n c e e2
    rcases h4 with h4 | h4
    · exact hne hL a n c e (h4 ▸ e2)
    · rw [h4, World.size_alloc] at e2
      injection e2 with e2
      rcases hy with ⟨_, hy⟩ | ⟨b, off, cap, hy1, _, _, hy3, _⟩
      · exact hL hy
      · rw [hy1] at e
        injection e with e _ _
        injection e with e
        rw [← e] at e2
        simp at e2; omega
  unfold Oper.wp execOp
  simp only [ho, resolve, invoke, builtin, Sem.run_bind, Sem.run_pure, Result.andThen_ok, List.map_toArray, List.map_cons, List.map_nil, hs, hx, hr]
  refine hk v' w' ⟨?_, ?_⟩ (hB'.grown h3 (by simp; omega) ?_)
  · have e : R.flatMap rowA ++ (#[Value.string D, Value.string S, Value.string U, Value.string H, Value.int .i64 n, u1, u2, u3] : Array Value).toList = (R ++ [((⟨us D, ⟨us S, us U, us H, n, F, G⟩, L⟩ : Adr), (u1, u2, u3))]).flatMap rowA := by
      rw [List.flatMap_append]; simp [rowA, sv]
    rw [← e, List.length_append]; exact h2
  · intro r hr'
    rcases List.mem_append.1 hr' with hr' | hr'
    · obtain ⟨⟨g1, g2, g3⟩, f1, f2, f3⟩ := hown.2 r hr'
      exact ⟨⟨hpr _ _ g1 f1, hpr _ _ g2 f2, hpr _ _ g3 f3⟩, hbl _ _ g1 f1, hbl _ _ g2 f2, hbl _ _ g3 f3⟩
    · rw [List.mem_singleton.1 hr']
      exact ⟨⟨hpr _ _ hu1 hb1, hpr _ _ hu2 hb2, hpr _ _ hu3 hb3⟩, hbl _ _ hu1 hb1, hbl _ _ hu2 hb2, hbl _ _ hu3 hb3⟩
  · intro k hk; exact (hown.1.lt k hk).1
theorem wpList_appA {wE w : World} {base : Nat} {t : TypeId} {v u1 u2 u3 : Value} {R : List AdrU} {s x : Operand} {D S U H : ByteArray} {n : Int} {F G L : List Prm}
    (hgd : o.guard = none) (ho : o.op = .call { callee := .builtin .append, args := #[s, x], argTypes := #[t, t] })
    (ht : P.underlying t = some (.slice 39)) (hi : infoIs P 39 (.agg #[.string ⟨#[]⟩, .string ⟨#[]⟩, .string ⟨#[]⟩, .string ⟨#[]⟩, .int .i64 0, .slice none 0 0, .slice none 0 0, .slice none 0 0]) 8 144)
    (hx : a.eval x = .slice (some ⟨w.heap.size, 0, none⟩) 1 1) (hs : a.eval s = v) (hown : Adrs w base v R) (hu1 : RPrms w u1 F) (hu2 : RPrms w u2 G) (hu3 : RPrms w u3 L) (hb1 : FreeA v u1 F) (hb2 : FreeA v u2 G) (hb3 : FreeA v u3 L) (hB : Below base wE w) (hbase : base ≤ wE.heap.size)
    (hbd : (R.length + 1) * 144 ≤ 140737488355328)
    (hk : ∀ v' w', Adrs w' base v' (R ++ [((⟨us D, ⟨us S, us U, us H, n, F, G⟩, L⟩ : Adr), (u1, u2, u3))]) → Below base wE w' → wpList P ops Q rest (a.put o.dst v') w') :
    wpList P ops Q (o :: rest) a (w.alloc (.cells #[.string D, .string S, .string U, .string H, .int .i64 n, u1, u2, u3] 39)) :=
  wpList_plain hgd fun _ hK => op_appA ho ht hi hx hs hown hu1 hu2 hu3 hb1 hb2 hb3 hB hbase hbd fun v' w' h1 h2 => hK _ _ (hk v' w' h1 h2)
end

end Go.Proofs.YtjpmfcipjaeemaaDoor
