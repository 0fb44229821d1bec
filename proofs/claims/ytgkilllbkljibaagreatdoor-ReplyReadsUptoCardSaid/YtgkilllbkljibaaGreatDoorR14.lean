/- Contracts of Go functions, and plain laws. No condition but those told. -/
import Derived.Test.YtgkilllbkljibaaGreatDoorR13
import Derived.Test.YtgkilllbkljibaaGreatDoorR08
import Derived.Lib.QuietBelow
set_option linter.unusedSimpArgs false
set_option linter.unusedVariables false
set_option maxRecDepth 100000
namespace Go.Proofs.YtgkilllbkljibaaGreatDoor
open Go.RowKit
def RAdrs (w : World) (v : Value) (L : List Adr) : Prop :=
 ((∃ ao cap, v = .slice ao 0 cap) ∧ L = []) ∨
 ∃ b off cap, v = .slice (some ⟨b, off, none⟩) L.length cap ∧ L.length ≤ cap ∧ cap ≤ maxLen ∧ b < w.heap.size ∧
  ∀ j (hj : j < L.length), w.cell? ⟨b, off + j * 8, none⟩ = some (sv L[j].disp) ∧ w.cell? ⟨b, off + j * 8 + 1, none⟩ = some (sv L[j].uri.scheme) ∧ w.cell? ⟨b, off + j * 8 + 2, none⟩ = some (sv L[j].uri.user) ∧ w.cell? ⟨b, off + j * 8 + 3, none⟩ = some (sv L[j].uri.host) ∧ w.cell? ⟨b, off + j * 8 + 4, none⟩ = some (.int .i64 L[j].uri.port) ∧ ∃ u1 u2 u3, w.cell? ⟨b, off + j * 8 + 5, none⟩ = some u1 ∧ w.cell? ⟨b, off + j * 8 + 6, none⟩ = some u2 ∧ w.cell? ⟨b, off + j * 8 + 7, none⟩ = some u3 ∧ RPrms w u1 L[j].uri.ps ∧ RPrms w u2 L[j].uri.hs ∧ RPrms w u3 L[j].ps
theorem RAdrs.below {w w' : World} {B : Nat} {v : Value} {L : List Adr} (h : RAdrs w v L) (hB : Below B w w') (hs : w.heap.size ≤ B) : RAdrs w' v L := by
 rcases h with h | ⟨b, off, cap, h1, h2, h2', h3, h4⟩
 ·exact .inl h
 ·refine .inr ⟨b, off, cap, h1, h2, h2', Nat.lt_of_lt_of_le h3 hB.size, fun j hj => ?_⟩
  obtain ⟨a0, a1, a2, a3, a4, u1, u2, u3, a5, a6, a7, k1, k2, k3⟩ := h4 j hj
  have hb : b < B := by omega
  rw [hB.cell (p := ⟨b, off + j * 8, none⟩) hb, hB.cell (p := ⟨b, off + j * 8 + 1, none⟩) hb, hB.cell (p := ⟨b, off + j * 8 + 2, none⟩) hb, hB.cell (p := ⟨b, off + j * 8 + 3, none⟩) hb, hB.cell (p := ⟨b, off + j * 8 + 4, none⟩) hb, hB.cell (p := ⟨b, off + j * 8 + 5, none⟩) hb, hB.cell (p := ⟨b, off + j * 8 + 6, none⟩) hb, hB.cell (p := ⟨b, off + j * 8 + 7, none⟩) hb]
  exact ⟨a0, a1, a2, a3, a4, u1, u2, u3, a5, a6, a7, k1.below hB hs, k2.below hB hs, k3.below hB hs⟩
theorem RAdrs.form {w : World} {v : Value} {L : List Adr} (h : RAdrs w v L) : ∃ ao cap, v = .slice ao L.length cap ∧ L.length ≤ maxLen ∧
  (0 < L.length → ∃ b off, ao = some ⟨b, off, none⟩ ∧ b < w.heap.size ∧ ∀ j (hj : j < L.length), w.cell? ⟨b, off + j * 8, none⟩ = some (sv L[j].disp) ∧ w.cell? ⟨b, off + j * 8 + 1, none⟩ = some (sv L[j].uri.scheme) ∧ w.cell? ⟨b, off + j * 8 + 2, none⟩ = some (sv L[j].uri.user) ∧ w.cell? ⟨b, off + j * 8 + 3, none⟩ = some (sv L[j].uri.host) ∧ w.cell? ⟨b, off + j * 8 + 4, none⟩ = some (.int .i64 L[j].uri.port) ∧ ∃ u1 u2 u3, w.cell? ⟨b, off + j * 8 + 5, none⟩ = some u1 ∧ w.cell? ⟨b, off + j * 8 + 6, none⟩ = some u2 ∧ w.cell? ⟨b, off + j * 8 + 7, none⟩ = some u3 ∧ RPrms w u1 L[j].uri.ps ∧ RPrms w u2 L[j].uri.hs ∧ RPrms w u3 L[j].ps) := by
 rcases h with ⟨⟨ao, cap, rfl⟩, rfl⟩ | ⟨b, off, cap, rfl, h2, h2', h3, h4⟩
 ·exact ⟨ao, cap, rfl, Nat.zero_le _, fun h => by simp at h⟩
 ·exact ⟨some ⟨b, off, none⟩, cap, rfl, Nat.le_trans h2 h2', fun _ => ⟨b, off, rfl, h3, h4⟩⟩
theorem RAdrs.nil (w : World) : RAdrs w (.slice none 0 0) [] := .inl ⟨⟨_, _, rfl⟩, rfl⟩
theorem cell_heapA {w w' : World} {b : Nat} (h : w'.heap[b]? = w.heap[b]?) (o : Nat) : w'.cell? ⟨b, o, none⟩ = w.cell? ⟨b, o, none⟩ := by
 unfold World.cell?; rw [h]
theorem RPrms.heapA {w w' : World} {u : Value} {L : List Prm} (h : RPrms w u L) (hs : w.heap.size ≤ w'.heap.size) (hb : L ≠ [] → ∀ a n c, u = .slice (some a) n c → a.block < w.heap.size → w'.heap[a.block]? = w.heap[a.block]?) : RPrms w' u L := by
 rcases h with h | ⟨b, off, cap, h1, h2, h2', h3, h4⟩
 ·exact .inl h
 ·by_cases hL : L = []
  ·subst hL
   exact .inl ⟨⟨_, _, h1⟩, rfl⟩
  ·refine .inr ⟨b, off, cap, h1, h2, h2', Nat.lt_of_lt_of_le h3 hs, fun j hj => ?_⟩
   have e := hb hL _ _ _ h1 h3
   rw [cell_heapA e, cell_heapA e, cell_heapA e]
   exact h4 j hj
abbrev AdrU := Adr × (Value × Value × Value)
def rowA (r : AdrU) : List Value := [sv r.1.disp, sv r.1.uri.scheme, sv r.1.uri.user, sv r.1.uri.host, .int .i64 r.1.uri.port, r.2.1, r.2.2.1, r.2.2.2]
def FreeA (v u : Value) (L : List Prm) : Prop := L ≠ [] → ∀ a n c, u = .slice (some a) n c → v.ownBlock ≠ some a.block
def AdrU.ok (w : World) (v : Value) (r : AdrU) : Prop := (RPrms w r.2.1 r.1.uri.ps ∧ RPrms w r.2.2.1 r.1.uri.hs ∧ RPrms w r.2.2.2 r.1.ps) ∧ FreeA v r.2.1 r.1.uri.ps ∧ FreeA v r.2.2.1 r.1.uri.hs ∧ FreeA v r.2.2.2 r.1.ps
def Adrs (w : World) (base : Nat) (v : Value) (R : List AdrU) : Prop :=
 w.ownsRow base 31 8 v R.length (R.flatMap rowA) ∧ ∀ r ∈ R, r.ok w v
theorem Adrs.nil (w : World) (base : Nat) : Adrs w base (.slice none 0 0) [] := ⟨World.ownsRow_nil w base _ 8, fun r hr => by cases hr⟩
theorem flat_atA : ∀ (L : List AdrU) (j : Nat) (hj : j < L.length) (i : Nat), i < 8 → (L.flatMap rowA)[j * 8 + i]? = (rowA L[j])[i]?
 | p :: r, 0, _, i, hi => by
  rw [List.flatMap_cons, Nat.zero_mul, Nat.zero_add, List.getElem?_append_left (by simpa [rowA] using hi)]; rfl
 | p :: r, j + 1, hj, i, hi => by
  rw [List.flatMap_cons, List.getElem?_append_right (by simp [rowA]; omega)]
  have : (j + 1) * 8 + i - (rowA p).length = j * 8 + i := by simp [rowA]; omega
  rw [this]
  exact flat_atA r j (by simpa using hj) i hi
theorem Adrs.read {w : World} {base : Nat} {v : Value} {R : List AdrU} (h : Adrs w base v R) : RAdrs w v (R.map Prod.fst) := by
 rcases RRow.of_own h.1 with ⟨h1, h2, _⟩ | ⟨b, off, cap, h1, h2, h2', h3, h4⟩
 ·exact .inl ⟨h1, by rw [List.eq_nil_of_length_eq_zero h2]; rfl⟩
 ·refine .inr ⟨b, off, cap, by rw [List.length_map]; exact h1, by rw [List.length_map]; exact h2, h2', h3, fun j hj => ?_⟩
  rw [List.length_map] at hj
  rw [List.getElem_map]
  obtain ⟨⟨g1, g2, g3⟩, _⟩ := h.2 _ (List.getElem_mem hj)
  exact ⟨h4 (j * 8) _ (flat_atA R j hj 0 (by decide)), h4 (j * 8 + 1) _ (flat_atA R j hj 1 (by decide)), h4 (j * 8 + 2) _ (flat_atA R j hj 2 (by decide)), h4 (j * 8 + 3) _ (flat_atA R j hj 3 (by decide)), h4 (j * 8 + 4) _ (flat_atA R j hj 4 (by decide)), R[j].2.1, R[j].2.2.1, R[j].2.2.2, h4 (j * 8 + 5) _ (flat_atA R j hj 5 (by decide)), h4 (j * 8 + 6) _ (flat_atA R j hj 6 (by decide)), h4 (j * 8 + 7) _ (flat_atA R j hj 7 (by decide)), g1, g2, g3⟩
theorem Adrs.below {w w' : World} {base B : Nat} {v : Value} {R : List AdrU} (h : Adrs w base v R) (hB : Below B w w') (hs : w.heap.size ≤ B) : Adrs w' base v R := by
 refine ⟨⟨h.1.1, ?_⟩, fun r hr => ⟨⟨(h.2 r hr).1.1.below hB hs, (h.2 r hr).1.2.1.below hB hs, (h.2 r hr).1.2.2.below hB hs⟩, (h.2 r hr).2⟩⟩
 rcases h.1.2 with hn | ⟨g, cap, cur, rfl, hb, hgg, rest⟩
 ·exact .inl hn
 ·refine .inr ⟨g, cap, cur, rfl, hb, ?_, rest⟩
  have hlt := (Array.getElem?_eq_some_iff.1 hgg).1
  rw [hB.block g (by omega)]; exact hgg
theorem Adrs.lt {w : World} {base : Nat} {v : Value} {R : List AdrU} (h : Adrs w base v R) : ∀ k, v.ownBlock = some k → k < w.heap.size := by
 intro k hk
 rcases h.1.2 with ⟨rfl, _⟩ | ⟨g, cap, cur, rfl, hb, hgg, rest⟩
 ·simp [Value.ownBlock] at hk
 ·have e : g = k := by simpa [Value.ownBlock] using hk
  subst e
  exact (Array.getElem?_eq_some_iff.1 hgg).1
theorem Adrs.free {w wx : World} {base : Nat} {v u : Value} {R : List AdrU} {q : List Prm} (h : Adrs w base v R) (hF : Fresh wx.heap.size u) (hs : w.heap.size ≤ wx.heap.size) : FreeA v u q := by
 intro _ a n c e e2
 have h1 := h.lt _ e2
 have h2 := hF a n c e
 omega
theorem infoA : infoIs Tryz.prog 31 (.agg #[.string ⟨#[]⟩, .string ⟨#[]⟩, .string ⟨#[]⟩, .string ⟨#[]⟩, .int .i64 0, .slice none 0 0, .slice none 0 0, .slice none 0 0]) 8 144 := by unfold infoIs; kernel_rfl
section
variable {P : Program} {ops : Array Oper} {rest : List Oper} {o : Oper} {a : Act} {Q : Exit → Act → World → Prop}
theorem run_app_blkA (w : World) (base : Nat) (t ty e : TypeId) (i : TypeInfo) (z : Value) (size bytes : Nat) (ht : P.underlying t = some (.slice e)) (hi : P.info? e = some i) (hz : i.zero = some z)
  (hsize : i.size = size) (hby : i.bytes = bytes) (hzs : z.cells.size = size) (hsz : 0 < size)
  (v : Value) (n : Nat) (xs : List Value) (hown : w.ownsRow base e size v n xs)
  (ad : Addr) (m c : Nat) (news : List Value) (hl : news.length = m * size) (hnews : ∀ j u, news[j]? = some u → w.cell? (ad.add j) = some u) (h1 : ∀ u ∈ news, u.oneCell' = true) (hm : 0 < m)
  (h63 : n + m ≤ maxLen) (hbytes : (n + m) * bytes ≤ 140737488355328) (hbase : base ≤ w.heap.size) :
  ∃ v' w', (Builtin.append_ #[t, t] ty #[v, .slice (some ad) m c]).run P w = .ok v' w' ∧ w'.ownsRow base e size v' (n + m) (xs ++ news) ∧ w.grownBy w' v.ownBlock ∧ (v'.ownBlock = v.ownBlock ∨ v'.ownBlock = some w.heap.size) := by
 obtain ⟨v', w', hr, h2, h3, _⟩ := run_append_own (P := P) w base t ty e i z size bytes ht hi hz hsize hby hzs hsz v n xs hown ad m c news hl hnews h1 h63 hbytes hbase
 refine ⟨v', w', hr, h2, h3, ?_⟩
 subst hsize
 subst hby
 have hsmall : n + m ≤ 9223372036854775807 := by simp only [maxLen] at h63; omega
 rcases hown.2 with ⟨rfl, rfl⟩ | ⟨g, cap, cur, rfl, hbg, hg, hnc, hcm, hcs, htake⟩
 ·have hr2 := run_append_nil (P := P) w t ty e i z ht hi hz ad m c news hl hnews hm (by omega) (by have hb := hbytes; simp only [Nat.zero_add] at hb; omega)
  rw [hr] at hr2
  injection hr2 with e1 e2
  exact .inr (by rw [e1]; rfl)
 ·by_cases hroom : n + m ≤ cap
  ·have hfit : n * i.size + news.length ≤ cur.size := by rw [hl, hcs, ← Nat.add_mul]; exact Nat.mul_le_mul_right _ hroom
   have hr2 := run_append_room (P := P) w t ty e i ht hi g n cap cur hg ad m c news hl hnews h1 hroom hfit
   rw [hr] at hr2
   injection hr2 with e1 e2
   exact .inl (by rw [e1]; rfl)
  ·have holds : ∀ j u, xs[j]? = some u → w.cell? ((⟨g, 0, none⟩ : Addr).add j) = some u := hown.cells (g := g) rfl
   have hr2 := run_append_grow (P := P) w t ty e i z ht hi hz ⟨g, 0, none⟩ n cap xs hown.1 holds ad m c news hl hnews (by omega) (by omega) (growslice_fits (by omega) hbytes)
   rw [hr] at hr2
   injection hr2 with e1 e2
   exact .inr (by rw [e1]; rfl)
theorem op_appA {K : Act → World → Prop} {wE w : World} {base : Nat} {t : TypeId} {v u1 u2 u3 : Value} {R : List AdrU} {s x : Operand} {D S U H : ByteArray} {n : Int} {F G L : List Prm}
  (ho : o.op = .call { callee := .builtin .append, args := #[s, x], argTypes := #[t, t] })
  (ht : P.underlying t = some (.slice 31)) (hi : infoIs P 31 (.agg #[.string ⟨#[]⟩, .string ⟨#[]⟩, .string ⟨#[]⟩, .string ⟨#[]⟩, .int .i64 0, .slice none 0 0, .slice none 0 0, .slice none 0 0]) 8 144)
  (hx : a.eval x = .slice (some ⟨w.heap.size, 0, none⟩) 1 1) (hs : a.eval s = v) (hown : Adrs w base v R) (hu1 : RPrms w u1 F) (hu2 : RPrms w u2 G) (hu3 : RPrms w u3 L) (hb1 : FreeA v u1 F) (hb2 : FreeA v u2 G) (hb3 : FreeA v u3 L) (hB : Below base wE w) (hbase : base ≤ wE.heap.size)
  (hbd : (R.length + 1) * 144 ≤ 140737488355328)
  (hk : ∀ v' w', Adrs w' base v' (R ++ [((⟨us D, ⟨us S, us U, us H, n, F, G⟩, L⟩ : Adr), (u1, u2, u3))]) → Below base wE w' → K (a.put o.dst v') w') :
  o.wp P a (w.alloc (.cells #[.string D, .string S, .string U, .string H, .int .i64 n, u1, u2, u3] 31)) K Q := by
 obtain ⟨i, hi0, hi1, hi2, hi3⟩ := info_parts hi
 have hsz2 := hB.size
 obtain ⟨ao, ca, e1, _⟩ := hu1.form
 obtain ⟨bo, cb, e2, _⟩ := hu2.form
 obtain ⟨co, cc, e3, _⟩ := hu3.form
 have hone : ∀ x ∈ (#[Value.string D, Value.string S, Value.string U, Value.string H, Value.int .i64 n, u1, u2, u3] : Array Value).toList, x.oneCell' = true := by
  subst e1 e2 e3; simp; exact ⟨rfl, rfl, rfl, rfl, rfl, rfl, rfl, rfl⟩
 obtain ⟨v', w', hr, h2, h3, h4⟩ := run_app_blkA (P := P) (w.alloc (.cells #[.string D, .string S, .string U, .string H, .int .i64 n, u1, u2, u3] 31)) base t o.type 31 i _ 8 144 ht hi0 hi1 hi2 hi3 rfl (by decide) v R.length (R.flatMap rowA) (hown.1.alloc _)
  ⟨w.heap.size, 0, none⟩ 1 1 (#[Value.string D, Value.string S, Value.string U, Value.string H, Value.int .i64 n, u1, u2, u3] : Array Value).toList rfl (by
   intro j x hj
   have hadd : (⟨w.heap.size, 0, none⟩ : Addr).add j = ⟨w.heap.size, j, none⟩ := by unfold Addr.add; split <;> simp_all
   rw [hadd, World.cell?_alloc_at _ _ _ _ rfl]
   simpa using hj) hone (by decide) (by simp only [maxLen]; omega) hbd (by simp; omega)
 have hB' : Below base wE (w.alloc (.cells #[.string D, .string S, .string U, .string H, .int .i64 n, u1, u2, u3] 31)) := hB.alloc (by omega) _
 have hpr : ∀ (y : Value) (L : List Prm), RPrms w y L → FreeA v y L → RPrms w' y L := by
  intro y L hy hne
  have hs' := h3.size
  rw [World.size_alloc] at hs'
  refine hy.heapA (by omega) fun hL a n c e hlt => ?_
  rw [h3.block a.block (by rw [World.size_alloc]; omega) (fun e2 => hne hL a n c e e2.symm), Below.heap_alloc _ _ _ hlt]
 have hbl : ∀ (y : Value) (L : List Prm), RPrms w y L → FreeA v y L → FreeA v' y L := by
  intro y L hy hne hL a n c e e2
  rcases h4 with h4 | h4
  ·exact hne hL a n c e (h4 ▸ e2)
  ·rw [h4, World.size_alloc] at e2
   injection e2 with e2
   rcases hy with ⟨_, hy⟩ | ⟨b, off, cap, hy1, _, _, hy3, _⟩
   ·exact hL hy
   ·rw [hy1] at e
    injection e with e _ _
    injection e with e
    rw [← e] at e2
    simp at e2; omega
 unfold Oper.wp execOp
 simp only [ho, resolve, invoke, builtin, Sem.run_bind, Sem.run_pure, Result.andThen_ok, List.map_toArray, List.map_cons, List.map_nil, hs, hx, hr]
 refine hk v' w' ⟨?_, ?_⟩ (hB'.grown h3 (by simp; omega) ?_)
 ·have e : R.flatMap rowA ++ (#[Value.string D, Value.string S, Value.string U, Value.string H, Value.int .i64 n, u1, u2, u3] : Array Value).toList = (R ++ [((⟨us D, ⟨us S, us U, us H, n, F, G⟩, L⟩ : Adr), (u1, u2, u3))]).flatMap rowA := by
   rw [List.flatMap_append]; simp [rowA, sv]
  rw [← e, List.length_append]; exact h2
 ·intro r hr'
  rcases List.mem_append.1 hr' with hr' | hr'
  ·obtain ⟨⟨g1, g2, g3⟩, f1, f2, f3⟩ := hown.2 r hr'
   exact ⟨⟨hpr _ _ g1 f1, hpr _ _ g2 f2, hpr _ _ g3 f3⟩, hbl _ _ g1 f1, hbl _ _ g2 f2, hbl _ _ g3 f3⟩
  ·rw [List.mem_singleton.1 hr']
   exact ⟨⟨hpr _ _ hu1 hb1, hpr _ _ hu2 hb2, hpr _ _ hu3 hb3⟩, hbl _ _ hu1 hb1, hbl _ _ hu2 hb2, hbl _ _ hu3 hb3⟩
 ·intro k hk; exact (hown.1.lt k hk).1
theorem wpList_appA {wE w : World} {base : Nat} {t : TypeId} {v u1 u2 u3 : Value} {R : List AdrU} {s x : Operand} {D S U H : ByteArray} {n : Int} {F G L : List Prm}
  (hgd : o.guard = none) (ho : o.op = .call { callee := .builtin .append, args := #[s, x], argTypes := #[t, t] })
  (ht : P.underlying t = some (.slice 31)) (hi : infoIs P 31 (.agg #[.string ⟨#[]⟩, .string ⟨#[]⟩, .string ⟨#[]⟩, .string ⟨#[]⟩, .int .i64 0, .slice none 0 0, .slice none 0 0, .slice none 0 0]) 8 144)
  (hx : a.eval x = .slice (some ⟨w.heap.size, 0, none⟩) 1 1) (hs : a.eval s = v) (hown : Adrs w base v R) (hu1 : RPrms w u1 F) (hu2 : RPrms w u2 G) (hu3 : RPrms w u3 L) (hb1 : FreeA v u1 F) (hb2 : FreeA v u2 G) (hb3 : FreeA v u3 L) (hB : Below base wE w) (hbase : base ≤ wE.heap.size)
  (hbd : (R.length + 1) * 144 ≤ 140737488355328)
  (hk : ∀ v' w', Adrs w' base v' (R ++ [((⟨us D, ⟨us S, us U, us H, n, F, G⟩, L⟩ : Adr), (u1, u2, u3))]) → Below base wE w' → wpList P ops Q rest (a.put o.dst v') w') :
  wpList P ops Q (o :: rest) a (w.alloc (.cells #[.string D, .string S, .string U, .string H, .int .i64 n, u1, u2, u3] 31)) :=
 wpList_plain hgd fun _ hK => op_appA ho ht hi hx hs hown hu1 hu2 hu3 hb1 hb2 hb3 hB hbase hbd fun v' w' h1 h2 => hK _ _ (hk v' w' h1 h2)
end
end Go.Proofs.YtgkilllbkljibaaGreatDoor
namespace Go.Proofs.YtgkilllbkljibaaGreatDoor
open Go.RowKit Go.Sort
theorem listA_long (l : List UInt8) (h : 16 < (parts l 44).length) : listA l = ([], 4) := if_pos h
theorem listA_go (l : List UInt8) (h : ¬ 16 < (parts l 44).length) : listA l = adrsGo [] (parts l 44) := if_neg h
structure KeptB (g1 g2 : Nat) (w w' : World) : Prop where
 size : w.heap.size ≤ w'.heap.size
 blk : ∀ k, k < w.heap.size → k ≠ g1 → k ≠ g2 → w'.heap[k]? = w.heap[k]?
theorem KeptB.refl (g1 g2 : Nat) (w : World) : KeptB g1 g2 w w := ⟨ρ _, fun _ _ _ _ => rfl⟩
theorem KeptB.trans {g1 g2 : Nat} {w w1 w2 : World} (h : KeptB g1 g2 w w1) (h' : KeptB g1 g2 w1 w2) : KeptB g1 g2 w w2 :=
 ⟨Nat.le_trans h.size h'.size, fun k hk a b => (h'.blk k (Nat.lt_of_lt_of_le hk h.size) a b).trans (h.blk k hk a b)⟩
theorem KeptB.of_below {g1 g2 : Nat} {w w' : World} (h : Below w.heap.size w w') : KeptB g1 g2 w w' := ⟨h.size, fun k hk _ _ => h.block k hk⟩
theorem RPrms.keptB {g1 g2 B : Nat} {w w' : World} {v : Value} {L : List Prm} (h : RPrms w v L) (hF : Fresh B v) (h1 : g1 < B) (h2 : g2 < B) (hk : KeptB g1 g2 w w') : RPrms w' v L :=
 h.heapA hk.size fun _ a n c e hlt => by
  have := hF a n c e
  exact hk.blk _ hlt (by omega) (by omega)
def RAdrsF (B : Nat) (w : World) (v : Value) (L : List Adr) : Prop :=
 ((∃ ao cap, v = .slice ao 0 cap) ∧ L = []) ∨
 ∃ b off cap, B ≤ b ∧ v = .slice (some ⟨b, off, none⟩) L.length cap ∧ L.length ≤ cap ∧ cap ≤ maxLen ∧ b < w.heap.size ∧
  ∀ j (hj : j < L.length), w.cell? ⟨b, off + j * 8, none⟩ = some (sv L[j].disp) ∧ w.cell? ⟨b, off + j * 8 + 1, none⟩ = some (sv L[j].uri.scheme) ∧ w.cell? ⟨b, off + j * 8 + 2, none⟩ = some (sv L[j].uri.user) ∧ w.cell? ⟨b, off + j * 8 + 3, none⟩ = some (sv L[j].uri.host) ∧ w.cell? ⟨b, off + j * 8 + 4, none⟩ = some (.int .i64 L[j].uri.port) ∧
   ∃ u1 u2 u3, w.cell? ⟨b, off + j * 8 + 5, none⟩ = some u1 ∧ w.cell? ⟨b, off + j * 8 + 6, none⟩ = some u2 ∧ w.cell? ⟨b, off + j * 8 + 7, none⟩ = some u3 ∧ (RPrms w u1 L[j].uri.ps ∧ RPrms w u2 L[j].uri.hs ∧ RPrms w u3 L[j].ps) ∧ Fresh B u1 ∧ Fresh B u2 ∧ Fresh B u3
theorem RAdrsF.nil (B : Nat) (w : World) : RAdrsF B w (.slice none 0 0) [] := .inl ⟨⟨_, _, rfl⟩, rfl⟩
theorem RAdrsF.read {B : Nat} {w : World} {v : Value} {L : List Adr} (h : RAdrsF B w v L) : RAdrs w v L := by
 rcases h with h | ⟨b, off, cap, h0, h1, h2, h2', h3, h4⟩
 ·exact .inl h
 ·refine .inr ⟨b, off, cap, h1, h2, h2', h3, fun j hj => ?_⟩
  obtain ⟨a0, a1, a2, a3, a4, u1, u2, u3, a5, a6, a7, ⟨k1, k2, k3⟩, _⟩ := h4 j hj
  exact ⟨a0, a1, a2, a3, a4, u1, u2, u3, a5, a6, a7, k1, k2, k3⟩
theorem RAdrsF.keptB {g1 g2 B : Nat} {w w' : World} {v : Value} {L : List Adr} (h : RAdrsF B w v L) (g1B : g1 < B) (g2B : g2 < B) (hk : KeptB g1 g2 w w') : RAdrsF B w' v L := by
 rcases h with h | ⟨b, off, cap, h0, h1, h2, h2', h3, h4⟩
 ·exact .inl h
 ·refine .inr ⟨b, off, cap, h0, h1, h2, h2', Nat.lt_of_lt_of_le h3 hk.size, fun j hj => ?_⟩
  obtain ⟨a0, a1, a2, a3, a4, u1, u2, u3, a5, a6, a7, ⟨k1, k2, k3⟩, f1, f2, f3⟩ := h4 j hj
  have e := hk.blk b h3 (by omega) (by omega)
  simp only [cell_heapA e]
  exact ⟨a0, a1, a2, a3, a4, u1, u2, u3, a5, a6, a7, ⟨k1.keptB f1 g1B g2B hk, k2.keptB f2 g1B g2B hk, k3.keptB f3 g1B g2B hk⟩, f1, f2, f3⟩
def FrU (B : Nat) (R : List AdrU) : Prop := ∀ r ∈ R, Fresh B r.2.1 ∧ Fresh B r.2.2.1 ∧ Fresh B r.2.2.2
theorem FrU.add {B : Nat} {R : List AdrU} (h : FrU B R) (a : Adr) {u1 u2 u3 : Value} (h1 : Fresh B u1) (h2 : Fresh B u2) (h3 : Fresh B u3) : FrU B (R ++ [(a, (u1, u2, u3))]) := by
 intro r hr
 rcases List.mem_append.1 hr with hr | hr
 ·exact h r hr
 ·rw [List.mem_singleton] at hr
  subst hr
  exact ⟨h1, h2, h3⟩
theorem Adrs.readF {w : World} {base B : Nat} {v : Value} {R : List AdrU} (h : Adrs w base v R) (hU : FrU base R) (hB : B ≤ base) : RAdrsF B w v (R.map Prod.fst) := by
 have hF : ∀ b off n c, v = .slice (some ⟨b, off, none⟩) n c → base ≤ b := by
  intro b off n c e
  rcases h.1.2 with ⟨rfl, _⟩ | ⟨g, cap, cur, rfl, hb, _⟩
  ·cases e
  ·injection e with e
   injection e with e
   injection e with e
   omega
 rcases h.read with h1 | ⟨b, off, cap, h1, h2, h2', h3, h4⟩
 ·exact .inl h1
 ·refine .inr ⟨b, off, cap, Nat.le_trans hB (hF _ _ _ _ h1), h1, h2, h2', h3, fun j hj => ?_⟩
  obtain ⟨a0, a1, a2, a3, a4, _⟩ := h4 j hj
  have hj2 : j < R.length := by simpa using hj
  obtain ⟨⟨k1, k2, k3⟩, _⟩ := h.2 _ (List.getElem_mem hj2)
  obtain ⟨f1, f2, f3⟩ := hU _ (List.getElem_mem hj2)
  rcases RRow.of_own h.1 with ⟨_, e2, _⟩ | ⟨b2, off2, cap2, e1, _, _, _, e4⟩
  ·omega
  ·rw [h1] at e1
   injection e1 with e1 _ _
   injection e1 with e1
   injection e1 with e1 e5
   subst e1 e5
   refine ⟨a0, a1, a2, a3, a4, R[j].2.1, R[j].2.2.1, R[j].2.2.2, e4 (j * 8 + 5) _ (flat_atA R j hj2 5 (by decide)), e4 (j * 8 + 6) _ (flat_atA R j hj2 6 (by decide)), e4 (j * 8 + 7) _ (flat_atA R j hj2 7 (by decide)), ?_, f1.mono hB, f2.mono hB, f3.mono hB⟩
   rw [List.getElem_map]
   exact ⟨k1, k2, k3⟩
set_option maxRecDepth 100000 in
set_option maxHeartbeats 12800000 in
theorem listA_f (s : ByteArray) (hs : s.size ≤ 4294967280) (w : World) (hm : Ml w) :
  Calls Tryz.prog 27 #[.string s] w fun e w' => ∃ v, e = .returned (.tuple #[v, .int .i64 (listA (us s)).2]) ∧ RAdrsF w.heap.size w' v (listA (us s)).1 ∧ Below w.heap.size w w' := by
 have HM := κ hm
 clear hm
 have HPC := κ (fun wx => parts_c s (by omega) 44 wx)
 have HLo := κ (listA_long (us s))
 have HGo := κ (listA_go (us s))
 have hPb : ∀ y ∈ parts (us s) 44, y.length ≤ 4294967280 := fun y hy => Nat.le_trans (parts_bd 44 (us s) y hy) (by rw [length_us]; exact hs)
 obtain ⟨Ps, hPs⟩ : ∃ P, P = parts (us s) 44 := ⟨_, rfl⟩
 rw [← hPs] at HPC HLo HGo hPb
 have HPBD := κ hPb
 obtain ⟨Q, hQ⟩ : ∃ Q, Q = listA (us s) := ⟨_, rfl⟩
 rw [← hQ] at HLo HGo ⊢
 clear hQ hPs hPb
 have hB0 : Below w.heap.size w w := Below.refl _ _
 by_cases h16 : 16 < Ps.length
 ·have HE := κ (HLo.out h16)
  go_enter Tryz.func27, Tryz.ntmps27
  go_wp2_with (go_at_call 82; refine (HPC.out _).mono ?_; rintro e w1 ⟨va, rfl, hva, hC1⟩; have HB1 := κ hC1; obtain ⟨ao, cap, rfl, hm1, c1⟩ := hva.form; clear c1 hva hC1; unfold maxLen at hm1)
  go_ret2
  exact ⟨_, by rw [HE.out]; rfl, by rw [HE.out]; exact RAdrsF.nil _ _, HB1.out⟩
 have HE := κ (HGo.out h16)
 clear HLo HGo
 go_enter Tryz.func27, Tryz.ntmps27
 go_wp2_with (go_at_call 82; refine (HPC.out _).mono ?_; rintro e w1 ⟨va, rfl, hva, hC1⟩; have HB1 := κ hC1; obtain ⟨ao, cap, rfl, hm1, c1⟩ := hva.form; have C1 := κ c1; clear c1 hva hC1; unfold maxLen at hm1)
 go_loopw [5, 17] (fun v i wr => ∃ (k : Nat) (R : List AdrU), k ≤ Ps.length ∧ i = .int .i64 k ∧ Adrs wr w1.heap.size v R ∧ Hid (Below w1.heap.size w1 wr) ∧ R.length = k ∧ Hid (FrU w1.heap.size R) ∧ Hid (adrsGo [] Ps = adrsGo (R.map Prod.fst) (Ps.drop k))) (fun _ i _ => Ps.length - (intOf i).toNat)
 case atStart => exact ⟨0, [], Nat.zero_le _, rfl, Adrs.nil _ _, κ (Below.refl _ _), rfl, κ (fun r hr => by cases hr), κ rfl⟩
 case round =>
  obtain ⟨k, R, hk, rfl, hown, HB, hR, HU, HP⟩ := hrel
  by_cases hlt : k < Ps.length
  ·obtain ⟨b, off, rfl, hb1, hc1⟩ := C1.out (by omega)
   have x0 : wr.cell? ⟨b, off + k, none⟩ = some (.string (bs Ps[k])) := (HB.out.cell (p := ⟨b, off + k, none⟩) hb1).trans (hc1 k hlt)
   have hpk := HPBD.out Ps[k] (List.getElem_mem hlt)
   have HPA := κ (fun wx hx => parseA_c (bs Ps[k]) (by rw [size_bs]; omega) wx hx)
   rw [us_bs] at HPA
   unfold AdrPost at HPA
   have hst : adrsGo [] Ps = if (parseA Ps[k]).2 ≠ 0 then ([], (parseA Ps[k]).2) else adrsGo (R.map Prod.fst ++ [(parseA Ps[k]).1]) (Ps.drop (k + 1)) := by
    rw [HP.out, List.drop_eq_getElem_cons hlt, adrsGo]
   obtain ⟨y, hy⟩ : ∃ y, y = parseA Ps[k] := ⟨_, rfl⟩
   rw [← hy] at HPA hst
   obtain ⟨S2, hS2⟩ : ∃ S2, S2 = bs Ps[k] := ⟨_, rfl⟩
   rw [← hS2] at x0 HPA
   clear hy hS2 hpk HP hc1
   obtain ⟨⟨d, ⟨sc, ur, ho, n, F, G⟩, L⟩, c⟩ := y
   obtain ⟨D, rfl⟩ : ∃ D, d = us D := ⟨bs d, (us_bs d).symm⟩
   obtain ⟨S, rfl⟩ : ∃ D, sc = us D := ⟨bs sc, (us_bs sc).symm⟩
   obtain ⟨U, rfl⟩ : ∃ D, ur = us D := ⟨bs ur, (us_bs ur).symm⟩
   obtain ⟨H, rfl⟩ : ∃ D, ho = us D := ⟨bs ho, (us_bs ho).symm⟩
   dsimp only at HPA hst
   unfold sv at HPA
   rw [bs_us, bs_us, bs_us, bs_us] at HPA
   have k0 : (0 : Int) ≤ (k : Int) := by omega
   have k1 : (k : Int) < (Ps.length : Int) := by omega
   by_cases hc : c = 0
   ·subst hc
    rw [if_neg (fun h => h rfl)] at hst
    have HST := κ hst
    clear hst
    go_wp2_with (first | (go_at_call 33; refine (HPA.out _ (HM.out.below (HB1.out.trans (HB.out.mono HB1.out.size)))).mono ?_; rintro e w3 ⟨u1, u2, u3, rfl, g1, g2, g3, j1, j2, j3, hC3⟩; obtain ⟨o1, c1, rfl, _, _⟩ := g1.form; obtain ⟨o2, c2, rfl, _, _⟩ := g2.form; obtain ⟨o3, c3, rfl, _, _⟩ := g3.form; have f1 := hown.free (q := F) j1 (ρ _); have f2 := hown.free (q := G) j2 (ρ _); have f3 := hown.free (q := L) j3 (ρ _); have hC := hC3.alloc hC3.size (.cells #[.string D, .string S, .string U, .string H, .int .i64 n, .slice o1 F.length c1, .slice o2 G.length c2, .slice o3 L.length c3] 31); have hB := HB.out.trans (hC.mono HB.out.size); replace hown := hown.below hC (ρ _); have hN := (Below.refl w3.heap.size w3).alloc (ρ _) (.cells #[.string D, .string S, .string U, .string H, .int .i64 n, .slice o1 F.length c1, .slice o2 G.length c2, .slice o3 L.length c3] 31); replace g1 := g1.below hN (ρ _); replace g2 := g2.below hN (ρ _); replace g3 := g3.below hN (ρ _); obtain ⟨n0, n1, n2, n3, n4, n5, n6, n7, _, _, _, _, _, _, _, _, _⟩ := blk_h8 (Blk.new w3 31 #[.string D, .string S, .string U, .string H, .int .i64 n, .slice o1 F.length c1, .slice o2 G.length c2, .slice o3 L.length c3])) | (at_builtin; refine wpList_appA rfl rfl Tryz.underlying34 infoA (by rw [World.size_alloc]; rfl) rfl hown g1 g2 g3 f1 f2 f3 hB (ρ _) ?_ ?_; (focus omega); intro v1 w4 ho1 hb1))
    go_roundw
    case rel => exact ⟨k + 1, _, by omega, by go_num, ho1, κ hb1, by rw [List.length_append, hR]; rfl, κ (HU.out.add _ (j1.mono HB.out.size) (j2.mono HB.out.size) (j3.mono HB.out.size)), κ (by rw [HST.out]; simp only [List.map_append, List.map_cons, List.map_nil])⟩
    case measure => simp [intOf]; omega
   ·rw [if_pos hc] at hst
    have t0 : (c != 0) = true := by simpa using hc
    have HF := κ (HE.out.trans hst)
    clear hst hc
    go_wp2_with ((go_at_call 33; refine (HPA.out _ (HM.out.below (HB1.out.trans (HB.out.mono HB1.out.size)))).mono ?_; rintro e w3 ⟨u1, u2, u3, rfl, g1, g2, g3, j1, j2, j3, hC3⟩; obtain ⟨o1, c1, rfl, _, _⟩ := g1.form; obtain ⟨o2, c2, rfl, _, _⟩ := g2.form; obtain ⟨o3, c3, rfl, _, _⟩ := g3.form; have hC := hC3.alloc hC3.size (.cells #[.string D, .string S, .string U, .string H, .int .i64 n, .slice o1 F.length c1, .slice o2 G.length c2, .slice o3 L.length c3] 31); have hB := HB.out.trans (hC.mono HB.out.size)))
    go_ret2
    exact ⟨_, by rw [HF.out]; rfl, by rw [HF.out]; exact RAdrsF.nil _ _, HB1.out.trans (hB.mono HB1.out.size)⟩
  ·have HF := κ (show Q = (R.map Prod.fst, 0) by rw [HE.out, HP.out, List.drop_eq_nil_iff.2 (by omega)]; rfl)
   clear HP
   go_wp2
   go_ret2
   exact ⟨_, by rw [HF.out]; rfl, by rw [HF.out]; exact hown.readF HU.out HB1.out.size, HB1.out.trans (HB.out.mono HB1.out.size)⟩
section
open Go.RowKit
def typeOf (l : List UInt8) : List UInt8 := lowr (trim ((parts l 59).headD []))
def typeOk (l : List UInt8) : Bool := (cutb 47 (typeOf l)).2.2 && token (cutb 47 (typeOf l)).1 && token (cutb 47 (typeOf l)).2.1
theorem typeOf_le (l : List UInt8) : (typeOf l).length ≤ l.length := by
 unfold typeOf
 rw [lowr_length]
 refine Nat.le_trans (trim_le _) ?_
 refine parts_bd 59 l _ ?_
 have := parts_ne 59 l
 cases h : parts l 59 with
 | nil => exact absurd h this
 | cons x r => simp
set_option maxRecDepth 4000 in
set_option maxHeartbeats 1600000 in
theorem type_c (s : ByteArray) (hs : s.size ≤ 4294967280) (w : World) (hm : Ml w) :
  Calls Tryz.prog 29 #[.string s] w fun e w' => e = .returned (.tuple #[.string (bs (typeOf (us s))), .bool (typeOk (us s))]) ∧ Below w.heap.size w w' := by
 have HM := κ hm
 clear hm
 have hty := typeOf_le (us s)
 have hcl := cutb_le 47 (typeOf (us s))
 rw [length_us] at hty
 have HB := κ (fun p hp => Nat.le_trans (parts_bd 59 (us s) p hp) (by rw [length_us]; exact hs))
 have HPC := κ (fun wx => parts_c s (by omega) 59 wx)
 have hne := parts_ne 59 (us s)
 have HN := κ (show typeOf (us s) = lowr (trim ((parts (us s) 59).headD [])) from rfl)
 have HCT := κ (fun wx (hx : Ml wx) => (cut_c (bs (typeOf (us s))) (by rw [size_bs]; omega) 47 wx hx))
 rw [us_bs] at HCT
 have HO := κ (show typeOk (us s) = ((cutb 47 (typeOf (us s))).2.2 && token (cutb 47 (typeOf (us s))).1 && token (cutb 47 (typeOf (us s))).2.1) from rfl)
 have HT1 := κ (fun wx => token_c (bs (cutb 47 (typeOf (us s))).1) (by rw [size_bs]; omega) wx)
 have HT2 := κ (fun wx => token_c (bs (cutb 47 (typeOf (us s))).2.1) (by rw [size_bs]; omega) wx)
 rw [us_bs] at HT1 HT2
 obtain ⟨L, hL⟩ : ∃ L, L = parts (us s) 59 := ⟨_, rfl⟩
 rw [← hL] at HB HPC HN hne
 clear hL
 obtain ⟨x, r, rfl⟩ : ∃ x r, L = x :: r := by cases L with | nil => exact absurd rfl hne | cons x r => exact ⟨x, r, rfl⟩
 clear hne
 have hxl := HB.out x (List.mem_cons_self ..)
 have htl := trim_le x
 have HTR := κ (fun wx => trim_c (bs x) (by rw [size_bs]; omega) wx)
 rw [us_bs] at HTR
 have HLW := κ (fun wx => lowerP_c (bs (trim x)) (by rw [size_bs]; omega) wx)
 rw [us_bs, show lowr (trim x) = typeOf (us s) from HN.out.symm] at HLW
 obtain ⟨tx, htx⟩ : ∃ tx, tx = trim x := ⟨_, rfl⟩
 rw [← htx] at HTR HLW
 clear htx hxl htl HN HB
 obtain ⟨ty, hty'⟩ : ∃ ty, ty = typeOf (us s) := ⟨_, rfl⟩
 rw [← hty'] at HLW HCT HO HT1 HT2 ⊢
 clear hty'
 obtain ⟨c, hc⟩ : ∃ c, c = cutb 47 ty := ⟨_, rfl⟩
 rw [← hc] at HCT HO HT1 HT2
 clear hc hcl hty
 obtain ⟨ca, cb, ok⟩ := c
 dsimp only at HCT HO HT1 HT2
 cases ok <;> cases ha : token ca <;> cases hb : token cb
 all_goals
  rw [ha] at HT1 HO; rw [hb] at HT2 HO
  clear ha hb
  go_enter Tryz.func29, Tryz.ntmps29
  go_wp2_with (first | (go_at_call 82; refine (HPC.out _).mono ?_; rintro e w1 ⟨v, rfl, hv, hC⟩; have HV := κ hv; obtain ⟨ao, cap, rfl, hm1, c1⟩ := hv.form; obtain ⟨b, off, rfl, hb1, hc1⟩ := c1 (by simp); have x0 := hc1 0 (by simp); rw [Nat.add_zero] at x0; have k1 : (0 : Int) < ((x :: r).length : Int) := (by simp); clear hc1 c1; unfold maxLen at hm1) | (go_at_call 80; refine (HTR.out _).mono ?_; rintro e wx ⟨rfl, rfl⟩) | (go_at_call 72; refine (HLW.out _).mono ?_; rintro e w2 ⟨rfl, hC2⟩; have hB2 := hC.trans (hC2.mono hC.size)) | (go_at_call 71; refine (HCT.out _ (HM.out.below hB2)).mono ?_; rintro e w3 ⟨rfl, hD⟩; have hB3 := hB2.trans (hD.below (B := w.heap.size))) | (go_at_call 31; first | ((with_reducible refine (HT1.out _).mono ?_); rintro e wx ⟨rfl, rfl⟩) | ((with_reducible refine (HT2.out _).mono ?_); rintro e wx ⟨rfl, rfl⟩)))
  go_ret2
  exact ⟨by rw [HO.out]; rfl, hB3⟩
end
theorem same_belowQ {P : Program} {f : FuncId} {args : Array Value} {w : World} {v : Value} (h : Calls P f args w fun e w' => e = .returned v ∧ w = w') :
  Calls P f args w fun e w' => e = .returned v ∧ Below w.heap.size w w' := h.mono fun _ _ ⟨a, b⟩ => ⟨a, b ▸ Below.refl _ _⟩
theorem regrownB {W wq : World} (h : ∃ p : Regrown, wq = grow (redrawn W p.d) p.os) : Below W.heap.size W wq := by
 obtain ⟨p, rfl⟩ := h; exact below_regrown W p.d p.os
theorem checkS_first (m : Mg) (h : firstS m = false) : checkS m = 60 := by unfold checkS; rw [if_pos h]
theorem checkS_many (m : Mg) (h : firstS m = true) (h2 : 64 < m.hdrs.length) : checkS m = 4 := by unfold checkS; rw [if_neg (by rw [h]; decide), if_pos h2]
theorem checkS_bad (m : Mg) (h : firstS m = true) (h2 : ¬ 64 < m.hdrs.length) (k : Nat) (hk : k < m.hdrs.length) (hb : badH m.hdrs[k] = true) : checkS m = 61 := by
 unfold checkS; rw [if_neg (by rw [h]; decide), if_neg h2, if_pos]
 exact List.any_eq_true.2 ⟨_, List.getElem_mem hk, hb⟩
theorem checkS_ok (m : Mg) (h : firstS m = true) (h2 : ¬ 64 < m.hdrs.length) (hb : (m.hdrs.take m.hdrs.length).any badH = false) : checkS m = 0 := by
 rw [List.take_length] at hb
 unfold checkS; rw [if_neg (by rw [h]; decide), if_neg h2, if_neg (by rw [hb]; decide)]
theorem badH_next (H : List Hdr) (k : Nat) (h : k < H.length) (hp : (H.take k).any badH = false) (hb : badH H[k] = false) : (H.take (k + 1)).any badH = false := by
 rw [List.take_succ_eq_append_getElem h, List.any_append, hp, List.any_cons, hb]; rfl
theorem badH_cases (h : Hdr) :
  (token h.name = false ∧ badH h = true) ∨ (token h.name = true ∧ ¬ longS h.name = h.name ∧ badH h = true) ∨ (token h.name = true ∧ longS h.name = h.name ∧ isLen h.name = true ∧ badH h = true) ∨
  (token h.name = true ∧ longS h.name = h.name ∧ isLen h.name = false ∧ valS h.value = false ∧ badH h = true) ∨ (token h.name = true ∧ longS h.name = h.name ∧ isLen h.name = false ∧ valS h.value = true ∧ badH h = false) := by
 unfold badH
 cases h1 : token h.name
 ·exact .inl ⟨rfl, by simp⟩
 by_cases h2 : longS h.name = h.name
 ·cases h3 : isLen h.name
  ·cases h4 : valS h.value
   ·exact .inr (.inr (.inr (.inl ⟨rfl, h2, rfl, rfl, by simp⟩)))
   ·exact .inr (.inr (.inr (.inr ⟨rfl, h2, rfl, rfl, by simp [h2]⟩)))
  ·exact .inr (.inr (.inl ⟨rfl, h2, rfl, by simp⟩))
 ·exact .inr (.inl ⟨rfl, h2, by simp [h2]⟩)
set_option maxRecDepth 100000 in
set_option maxHeartbeats 6400000 in
theorem check_c (M T R B : ByteArray) (x : Int) (u : Value) (H : List Hdr) (hM : M.size ≤ 4294967280) (hT : T.size ≤ 4294967280) (hR : R.size ≤ 4294967280) (w : World) (hu : RHdrs w u H)
  (hb : ∀ h ∈ H, h.name.length ≤ 140737488355328 ∧ h.value.length ≤ 140737488355328) :
  Calls Tryz.prog 111 #[.agg #[.string M, .string T, .int .i64 x, .string R, u, .string B]] w fun e w' => e = .returned (.int .i64 (checkS ⟨us M, us T, x, us R, H, us B⟩)) ∧ Below w.heap.size w w' := by
 obtain ⟨ao, cap, rfl, hm1, c1⟩ := hu.form
 unfold maxLen at hm1
 have C1 := κ c1
 have HBD := κ hb
 have HF := κ (fun wx => firstF_c M T R B x (.slice ao H.length cap) H hM hT hR wx)
 have h60 := checkS_first ⟨us M, us T, x, us R, H, us B⟩
 have h4 := checkS_many ⟨us M, us T, x, us R, H, us B⟩
 have h61 := checkS_bad ⟨us M, us T, x, us R, H, us B⟩
 have h0 := checkS_ok ⟨us M, us T, x, us R, H, us B⟩
 clear c1 hu hb
 have hB0 : Below w.heap.size w (w.alloc (.cells #[.string M, .string T, .int .i64 x, .string R, .slice ao H.length cap, .string B] 24)) := (Below.refl _ _).alloc (ρ _) _
 obtain ⟨w0, hw0⟩ : ∃ w0, w0 = w.alloc (.cells #[.string M, .string T, .int .i64 x, .string R, .slice ao H.length cap, .string B] 24) := ⟨_, rfl⟩
 have bm : Blk w0 w.heap.size 24 #[.string M, .string T, .int .i64 x, .string R, .slice ao H.length cap, .string B] := by rw [hw0]; exact Blk.new _ _ _
 rw [← hw0] at hB0
 have HW0 := κ hw0.symm
 clear hw0
 obtain ⟨_, _, _, _, _, _, f0, f1, f2, f3, f4, f5, z2⟩ := bm.g6
 cases hf : firstS ⟨us M, us T, x, us R, H, us B⟩
 ·have HE := κ (h60 hf)
  rw [hf] at HF
  clear h60 h4 h61 h0 hf
  go_enter Tryz.func111, Tryz.ntmps111
  go_wp2_with (go_at_call 148; rw [HW0.out]; refine (HF.out _).mono ?_; rintro e w1 ⟨rfl, hC⟩)
  go_ret
  exact ⟨by rw [HE.out]; rfl, hB0.trans (hC.mono hB0.size)⟩
 ·rw [hf] at HF
  by_cases h64 : 64 < H.length
  ·have HE := κ (h4 hf h64)
   have t64 : ((64 : Int) < (H.length : Int)) := by omega
   clear h60 h4 h61 h0 hf
   go_enter Tryz.func111, Tryz.ntmps111
   go_wp2_with (go_at_call 148; rw [HW0.out]; refine (HF.out _).mono ?_; rintro e w1 ⟨rfl, hC⟩; obtain ⟨_, _, _, _, m4, _, _⟩ := (bm.call hC).g6)
   go_ret
   exact ⟨by rw [HE.out]; rfl, hB0.trans (hC.mono hB0.size)⟩
  ·have H61 := κ (h61 hf h64)
   have H0 := κ (h0 hf h64)
   have t64 : ¬ ((64 : Int) < (H.length : Int)) := by omega
   clear h60 h4 h61 h0 hf
   go_enter Tryz.func111, Tryz.ntmps111
   go_wp2_with (go_at_call 148; rw [HW0.out]; refine (HF.out _).mono ?_; rintro e w1 ⟨rfl, hC⟩; obtain ⟨_, _, _, _, m4, _, _⟩ := (bm.call hC).g6)
   clear m4 f0 f1 f2 f3 f4 f5
   have hB1 : Below w.heap.size w w1 := hB0.trans (hC.mono hB0.size)
   go_loopw [15] (fun i wr => ∃ k : Nat, k ≤ H.length ∧ i = .int .i64 k ∧ Below w.heap.size w wr ∧ (H.take k).any badH = false) (fun i _ => H.length - (intOf i).toNat)
   case atStart => exact ⟨0, Nat.zero_le _, rfl, hB1, rfl⟩
   case round =>
    obtain ⟨k, hk, rfl, hBr, hp⟩ := hrel
    have HP := κ hp; clear hp
    by_cases hlt : k < H.length
    ·obtain ⟨b, off, rfl, hb1, hc1⟩ := C1.out (by omega)
     obtain ⟨hbn, hbv⟩ := HBD.out _ (List.getElem_mem hlt)
     obtain ⟨N, hN⟩ : ∃ N, N = bs H[k].name := ⟨_, rfl⟩
     obtain ⟨V, hV⟩ : ∃ N, N = bs H[k].value := ⟨_, rfl⟩
     have x0 : wr.cell? ⟨b, off + k * 2, none⟩ = some (.string N) := by
      rw [hBr.cell (p := ⟨b, off + k * 2, none⟩) hb1, hN]; exact (hc1 k hlt).1
     have x1 : wr.cell? ⟨b, off + k * 2 + 1, none⟩ = some (.string V) := by
      rw [hBr.cell (p := ⟨b, off + k * 2 + 1, none⟩) hb1, hV]; exact (hc1 k hlt).2
     have hNs : N.size = H[k].name.length := by rw [hN, size_bs]
     have hVs : V.size = H[k].value.length := by rw [hV, size_bs]
     have k0 : (0 : Int) ≤ (k : Int) := by omega
     have W0 : (wr.alloc (.cells #[.string N, .string V] 46)).cell? ⟨wr.heap.size, 0, none⟩ = some (.string N) := boxedCell (heap_alloc_new wr _) 0
     have W1 : (wr.alloc (.cells #[.string N, .string V] 46)).cell? ⟨wr.heap.size, 1, none⟩ = some (.string V) := boxedCell (heap_alloc_new wr _) 1
     have q0 := cell_regrown W0
     have q1 := cell_regrown W1
     have cT := fun d os => Calls.regrown_of (same_belowQ (token_c N (by omega) (grow (redrawn (wr.alloc (.cells #[.string N, .string V] 46)) d) os)))
     have cL := fun d os => Calls.regrown_of (long_c N (by omega) (grow (redrawn (wr.alloc (.cells #[.string N, .string V] 46)) d) os))
     have cI := fun d os => Calls.regrown_of (length_c N (by omega) (grow (redrawn (wr.alloc (.cells #[.string N, .string V] 46)) d) os))
     have cV := fun d os => Calls.regrown_of (same_belowQ (value_c' V (by omega) (grow (redrawn (wr.alloc (.cells #[.string N, .string V] 46)) d) os)))
     have uN : us N = H[k].name := by rw [hN, us_bs]
     have uV : us V = H[k].value := by rw [hV, us_bs]
     have hbad := H61.out k hlt
     have hnext := badH_next H k hlt HP.out
     have hca := badH_cases H[k]
     rw [← uN, ← uV] at hca
     clear W0 W1 hN hV hNs hVs hbn hbv uN uV hc1 hb1
     rcases hca with ⟨h1, hh⟩ | ⟨h1, h2, hh⟩ | ⟨h1, h2, h3, hh⟩ | ⟨h1, h2, h3, h4, hh⟩ | ⟨h1, h2, h3, h4, hh⟩
     ·have HE := κ (hbad hh)
      rw [h1] at cT
      clear h1 hh hbad hnext
      go_wp2; refine wp_region_quiet_below (by kernel_rfl) (by kernel_rfl) ?_; (repeat (first | go_big_quiet_step (first | with_reducible exact cT _ _ | with_reducible exact cL _ _ | with_reducible exact cI _ _ | with_reducible exact cV _ _) | quiet_step (first | with_reducible exact cT _ _ | with_reducible exact cL _ _ | with_reducible exact cI _ _ | with_reducible exact cV _ _))); refine wpQuiet_nil ?_; intro wq hw'; have hBq := regrownB hw'; clear hw'; go_wp2; go_ret; exact ⟨by rw [HE.out]; rfl, hBr.trans ((((Below.refl _ _).alloc (ρ _) _).trans (hBq.mono (by rw [World.size_alloc]; omega))).mono hBr.size)⟩
     ·have HE := κ (hbad hh)
      rw [h1] at cT
      obtain ⟨N2, hN2⟩ : ∃ N2, N2 = bs (longS (us N)) := ⟨_, rfl⟩
      have hne : (N2.toList == N.toList) = false := by rw [toList_us, toList_us, hN2, us_bs, beq_eq_false_iff_ne]; exact h2
      rw [← hN2] at cL
      clear h1 h2 hh hbad hnext hN2
      go_wp2; refine wp_region_quiet_below (by kernel_rfl) (by kernel_rfl) ?_; (repeat (first | go_big_quiet_step (first | with_reducible exact cT _ _ | with_reducible exact cL _ _ | with_reducible exact cI _ _ | with_reducible exact cV _ _) | quiet_step (first | with_reducible exact cT _ _ | with_reducible exact cL _ _ | with_reducible exact cI _ _ | with_reducible exact cV _ _))); refine wpQuiet_nil ?_; intro wq hw'; have hBq := regrownB hw'; clear hw'; go_wp2; go_ret; exact ⟨by rw [HE.out]; rfl, hBr.trans ((((Below.refl _ _).alloc (ρ _) _).trans (hBq.mono (by rw [World.size_alloc]; omega))).mono hBr.size)⟩
     ·have HE := κ (hbad hh)
      rw [h1] at cT
      rw [h2, bs_us] at cL
      rw [h2, h3] at cI
      clear h1 h2 h3 hh hbad hnext
      go_wp2; refine wp_region_quiet_below (by kernel_rfl) (by kernel_rfl) ?_; (repeat (first | go_big_quiet_step (first | with_reducible exact cT _ _ | with_reducible exact cL _ _ | with_reducible exact cI _ _ | with_reducible exact cV _ _) | quiet_step (first | with_reducible exact cT _ _ | with_reducible exact cL _ _ | with_reducible exact cI _ _ | with_reducible exact cV _ _))); refine wpQuiet_nil ?_; intro wq hw'; have hBq := regrownB hw'; clear hw'; go_wp2; go_ret; exact ⟨by rw [HE.out]; rfl, hBr.trans ((((Below.refl _ _).alloc (ρ _) _).trans (hBq.mono (by rw [World.size_alloc]; omega))).mono hBr.size)⟩
     ·have HE := κ (hbad hh)
      rw [h1] at cT
      rw [h2, bs_us] at cL
      rw [h2, h3] at cI
      rw [h4] at cV
      clear h1 h2 h3 h4 hh hbad hnext
      go_wp2; refine wp_region_quiet_below (by kernel_rfl) (by kernel_rfl) ?_; (repeat (first | go_big_quiet_step (first | with_reducible exact cT _ _ | with_reducible exact cL _ _ | with_reducible exact cI _ _ | with_reducible exact cV _ _) | quiet_step (first | with_reducible exact cT _ _ | with_reducible exact cL _ _ | with_reducible exact cI _ _ | with_reducible exact cV _ _))); refine wpQuiet_nil ?_; intro wq hw'; have hBq := regrownB hw'; clear hw'; go_wp2; go_ret; exact ⟨by rw [HE.out]; rfl, hBr.trans ((((Below.refl _ _).alloc (ρ _) _).trans (hBq.mono (by rw [World.size_alloc]; omega))).mono hBr.size)⟩
     ·have HN := κ (hnext hh)
      rw [h1] at cT
      rw [h2, bs_us] at cL
      rw [h2, h3] at cI
      rw [h4] at cV
      clear h1 h2 h3 h4 hh hbad hnext
      go_wp2
      refine wp_region_quiet_below (by kernel_rfl) (by kernel_rfl) ?_; (repeat (first | go_big_quiet_step (first | with_reducible exact cT _ _ | with_reducible exact cL _ _ | with_reducible exact cI _ _ | with_reducible exact cV _ _) | quiet_step (first | with_reducible exact cT _ _ | with_reducible exact cL _ _ | with_reducible exact cI _ _ | with_reducible exact cV _ _))); refine wpQuiet_nil ?_; intro wq hw'; have hBq := regrownB hw'; clear hw'
      go_wp2
      go_roundw
      case rel => exact ⟨k + 1, by omega, by go_num, hBr.trans ((((Below.refl _ _).alloc (ρ _) _).trans (hBq.mono (by rw [World.size_alloc]; omega))).mono hBr.size), HN.out⟩
      case measure => simp [intOf]; omega
    ·have hk' : k = H.length := by omega
     have HE := κ (H0.out (by rw [← hk']; exact HP.out))
     go_wp2
     go_ret
     exact ⟨by rw [HE.out]; rfl, hBr⟩
section
variable {P : Program} {ops : Array Oper} {o : Oper} {a : Act} {Q : Exit → Act → World → Prop}
theorem step_wX2 {K : Act → World → Prop} {w : World} {E : Prop} {R : Value → World → Prop} {f : FuncId} {x y : Operand} {ts : Array TypeId} {v0 v1 : Value}
  (hw : Region.wanted o (yielded ops a.tmps) = true) (ho : o.op = .call { callee := .value (.func f), args := #[x, y], argTypes := ts }) {fn : Func} (hf : P.funcs[f]? = some fn) (hnm : (fn.name == "runtime.NumGoroutine") = false) (hbd : fn.body.isNone = false)
  (hx : a.eval x = v0) (hy : a.eval y = v1) (hC : Calls P f #[v0, v1] w fun e w' => ∃ v, e = .returned v ∧ R v w') (hK : ∀ v w', R v w' → K (a.put o.dst v) w') :
  if Region.wanted o (yielded ops a.tmps) = true then Oper.wp P o a w K Q else E := by
 rw [if_pos hw]
 unfold Oper.wp
 have h1 : fn.name ≠ "runtime.NumGoroutine" := by simpa using hnm
 have h2 : fn.body ≠ none := by intro e; rw [e] at hbd; cases hbd
 have hrun : (execOp a.eval o).run P w = .ok (.enter f #[v0, v1]) w := by
  subst hx hy
  simp [execOp, ho, resolve, Deferred.ofValue, invoke, callFunc, Act.eval, hf, h1, h2, Result.andThen]
 rw [hrun]
 refine hC.mono ?_
 rintro e w' ⟨v, rfl, hR⟩
 exact hK v w' hR
end
end Go.Proofs.YtgkilllbkljibaaGreatDoor
