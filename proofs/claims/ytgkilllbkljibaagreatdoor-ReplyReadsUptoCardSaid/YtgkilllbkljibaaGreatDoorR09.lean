/- Contracts of Go functions, and plain laws. No condition but those told. -/
import Derived.Test.YtgkilllbkljibaaGreatDoorR08
import Derived.Test.YtgkilllbkljibaaGreatDoorR06
import Derived.Test.YtgkilllbkljibaaGreatDoorR05
set_option linter.unusedSimpArgs false
set_option linter.unusedVariables false
namespace Go.Proofs.YtgkilllbkljibaaGreatDoor
open Go.RowKit
theorem Strs.at_ {w : World} {base b off cap k : Nat} {e : TypeId} {L : List (List UInt8)} (h : Strs w base e (.slice (some ⟨b, off, none⟩) L.length cap) L) (hk : k < L.length) : w.cell? ⟨b, off + k, none⟩ = some (.string (bs L[k])) := by
 obtain ⟨ao, c, e1, _, h2⟩ := h.read.form
 obtain ⟨b', off', e2, _, h3⟩ := h2 (by omega)
 injection e1 with e1 _ _
 rw [e2] at e1
 injection e1 with e1
 injection e1 with e3 e4
 subst e3 e4
 exact h3 k hk
section
variable {P : Program} {ops : Array Oper} {rest : List Oper} {o : Oper} {a : Act} {Q : Exit → Act → World → Prop}
theorem op_appVK {K : Act → World → Prop} {wE w : World} {base : Nat} {t : TypeId} {v u : Value} {R : List (Hop × Value)} {s x : Operand} {N : ByteArray} {n : Int} (q : Hop) (hN : us N = q.host) (hn : n = q.port)
  (ho : o.op = .call { callee := .builtin .append, args := #[s, x], argTypes := #[t, t] })
  (ht : P.underlying t = some (.slice 90)) (hi : infoIs P 90 (.agg #[.string ⟨#[]⟩, .int .i64 0, .slice none 0 0]) 3 48)
  (hx : a.eval x = .slice (some ⟨w.heap.size, 0, none⟩) 1 1) (hs : a.eval s = v) (hown : Hops w base v R) (hu : RPrms w u q.ps) (hub : q.ps ≠ [] → ∀ a n c, u = .slice (some a) n c → v.ownBlock ≠ some a.block) (hB : Below base wE w) (hbase : base ≤ wE.heap.size)
  (hbd : (R.length + 1) * 48 ≤ 140737488355328)
  (hk : ∀ v' w', Hops w' base v' (R ++ [(q, u)]) → Below base wE w' → Kept 90 w w' → K (a.put o.dst v') w') :
  o.wp P a (w.alloc (.cells #[.string N, .int .i64 n, u] 90)) K Q := by
 subst hn
 obtain ⟨i, hi0, hi1, hi2, hi3⟩ := info_parts hi
 have hsz2 := hB.size
 obtain ⟨ao, ca, hu1, _⟩ := hu.form
 have hone : ∀ x ∈ (#[Value.string N, Value.int .i64 q.port, u] : Array Value).toList, x.oneCell' = true := by
  subst hu1; simp; exact ⟨rfl, rfl, rfl⟩
 obtain ⟨v', w', hr, h2, h3, h4⟩ := run_app_blk (P := P) (w.alloc (.cells #[.string N, .int .i64 q.port, u] 90)) base t o.type 90 i _ 3 48 ht hi0 hi1 hi2 hi3 rfl (by decide) v R.length (R.flatMap rowV) (hown.1.alloc _)
  ⟨w.heap.size, 0, none⟩ 1 1 (#[Value.string N, Value.int .i64 q.port, u] : Array Value).toList rfl (by
   intro j x hj
   have hadd : (⟨w.heap.size, 0, none⟩ : Addr).add j = ⟨w.heap.size, j, none⟩ := by unfold Addr.add; split <;> simp_all
   rw [hadd, World.cell?_alloc_at _ _ _ _ rfl]
   simpa using hj) hone (by decide) (by simp only [maxLen]; omega) hbd (by simp; omega)
 have hB' : Below base wE (w.alloc (.cells #[.string N, .int .i64 q.port, u] 90)) := hB.alloc (by omega) _
 have hpr : ∀ (y : Value) (L : List Prm), RPrms w y L → (L ≠ [] → ∀ a n c, y = .slice (some a) n c → v.ownBlock ≠ some a.block) → RPrms w' y L := by
  intro y L hy hne
  have hs' := h3.size
  rw [World.size_alloc] at hs'
  refine hy.heap (by omega) fun hL a n c e hlt => ?_
  rw [h3.block a.block (by rw [World.size_alloc]; omega) (fun e2 => hne hL a n c e e2.symm), Below.heap_alloc _ _ _ hlt]
 have hbl : ∀ (y : Value) (L : List Prm), RPrms w y L → (L ≠ [] → ∀ a n c, y = .slice (some a) n c → v.ownBlock ≠ some a.block) → (L ≠ [] → ∀ a n c, y = .slice (some a) n c → v'.ownBlock ≠ some a.block) := by
  intro y L hy hne hL a n c e e2
  rcases h4 with h4 | h4
  ·exact hne hL a n c e (h4 ▸ e2)
  ·rw [h4, World.size_alloc] at e2
   injection e2 with e2
   rcases hy with ⟨_, hy⟩ | ⟨b, off, cap, hy1, _, _, hy3, _⟩
   ·exact hL hy
   ·rw [hy1] at e
    injection e with e _ _
    injection e with e
    rw [← e] at e2
    simp at e2; omega
 unfold Oper.wp execOp
 simp only [ho, resolve, invoke, builtin, Sem.run_bind, Sem.run_pure, Result.andThen_ok, List.map_toArray, List.map_cons, List.map_nil, hs, hx, hr]
 refine hk v' w' ⟨?_, ?_⟩ (hB'.grown h3 (by simp; omega) ?_) ?_
 ·have e : R.flatMap rowV ++ (#[Value.string N, Value.int .i64 q.port, u] : Array Value).toList = (R ++ [(q, u)]).flatMap rowV := by
   rw [List.flatMap_append]; simp [rowV, sv, ← hN]
  rw [← e, List.length_append]; exact h2
 ·intro r hr'
  rcases List.mem_append.1 hr' with hr' | hr'
  ·exact ⟨hpr _ _ (hown.2 r hr').1 (hown.2 r hr').2, hbl _ _ (hown.2 r hr').1 (hown.2 r hr').2⟩
  ·rw [List.mem_singleton.1 hr']
   exact ⟨hpr _ _ hu hub, hbl _ _ hu hub⟩
 ·intro k hk; exact (hown.1.lt k hk).1
 ·intro g cs t' fr hgg hne
  have hlt := (Array.getElem?_eq_some_iff.1 hgg).1
  rw [h3.block g (by rw [World.size_alloc]; omega) ?_, Below.heap_alloc _ _ _ hlt, hgg]
  rcases hown.1.2 with ⟨rfl, _⟩ | ⟨g', cap, cur, rfl, _, hh, _⟩
  ·simp [Value.ownBlock]
  ·intro he
   have : g = g' := by simpa [Value.ownBlock] using he
   subst this
   rw [hh] at hgg
   injection hgg with hgg
   injection hgg with _ htt
   exact hne htt.symm
theorem wpList_appVK {wE w : World} {base : Nat} {t : TypeId} {v u : Value} {R : List (Hop × Value)} {s x : Operand} {N : ByteArray} {n : Int} (q : Hop) (hN : us N = q.host) (hn : n = q.port)
  (hgd : o.guard = none) (ho : o.op = .call { callee := .builtin .append, args := #[s, x], argTypes := #[t, t] })
  (ht : P.underlying t = some (.slice 90)) (hi : infoIs P 90 (.agg #[.string ⟨#[]⟩, .int .i64 0, .slice none 0 0]) 3 48)
  (hx : a.eval x = .slice (some ⟨w.heap.size, 0, none⟩) 1 1) (hs : a.eval s = v) (hown : Hops w base v R) (hu : RPrms w u q.ps) (hub : q.ps ≠ [] → ∀ a n c, u = .slice (some a) n c → v.ownBlock ≠ some a.block) (hB : Below base wE w) (hbase : base ≤ wE.heap.size)
  (hbd : (R.length + 1) * 48 ≤ 140737488355328)
  (hk : ∀ v' w', Hops w' base v' (R ++ [(q, u)]) → Below base wE w' → Kept 90 w w' → wpList P ops Q rest (a.put o.dst v') w') :
  wpList P ops Q (o :: rest) a (w.alloc (.cells #[.string N, .int .i64 n, u] 90)) :=
 wpList_plain hgd fun _ hK => op_appVK q hN hn ho ht hi hx hs hown hu hub hB hbase hbd fun v' w' h1 h2 h3 => hK _ _ (hk v' w' h1 h2 h3)
end
set_option maxRecDepth 4000 in
set_option maxHeartbeats 6400000 in
theorem partsF_c (s : ByteArray) (hs : s.size ≤ 4398046511104) (sep : UInt8) (w : World) :
  Calls Tryz.prog 82 #[.string s, .int .u8 sep.toNat] w fun e w' => ∃ v, e = .returned v ∧ Strs w' w.heap.size 9 v (parts (us s) sep) ∧ Below w.heap.size w w' := by
 go_enter Tryz.func82, Tryz.ntmps82
 go_wp2
 go_loopw [5, 6, 7, 8, 9] (fun v f qq aa i wr => ∃ (k fr : Nat) (q a : Bool) (L : List (List UInt8)), fr ≤ k ∧ fr ≤ s.size ∧ k ≤ s.size + 1 ∧ i = .int .i64 k ∧ f = .int .i64 fr ∧ qq = .bool q ∧ aa = .bool a ∧ L.length ≤ k ∧ Strs wr w.heap.size 9 v L ∧ parts (us s) sep = L ++ partsGo sep q a (piece s fr k) ((us s).drop k) ∧ Below w.heap.size w wr) (fun _ _ _ _ i _ => s.size + 1 - (intOf i).toNat)
 case atStart => exact ⟨0, 0, false, false, [], ρ _, Nat.zero_le _, by omega, rfl, rfl, rfl, rfl, ρ _, Strs.nil _ _ _, rfl, Below.refl _ _⟩
 case round =>
  obtain ⟨k, fr, q, a, L, hf1, hf2, hk, rfl, rfl, rfl, rfl, hl, hown, hp, hB⟩ := hrel
  have HP := κ hp; clear hp
  by_cases hlt : k < s.size
  ·have hd := κ (drop_us s k hlt)
   have ps := κ (piece_snoc s fr k hf1 hlt)
   have p0 := κ (piece_self s (k + 1))
   by_cases hA : q = true ∧ s[k].toNat = 92
   ·obtain ⟨rfl, h92⟩ := hA
    have HN := κ (show parts (us s) sep = L ++ partsGo sep true a (piece s fr (k + 2)) ((us s).drop (k + 2)) by rw [HP.out, pg_esc sep a _ s k hlt h92, piece_two s fr k hf1])
    have t92 : ((s[k].toNat : Int) == 92) = true := by simp; omega
    clear h92
    go_wp2
    go_roundw
    case rel => exact ⟨k + 2, fr, true, a, L, by omega, hf2, by omega, by go_num, rfl, rfl, rfl, by omega, hown, HN.out, hB⟩
    case measure => simp [intOf]; omega
   have hpg := κ (pg_cons sep q a (piece s fr k) s[k] ((us s).drop (k + 1)) hA)
   by_cases h34 : s[k].toNat = 34
   ·have HN := κ (show parts (us s) sep = L ++ partsGo sep (!q) a (piece s fr (k + 1)) ((us s).drop (k + 1)) by rw [HP.out, hd.out, hpg.out, if_pos h34, ps.out])
    have t92 : ((s[k].toNat : Int) == 92) = false := by simp; omega
    have t34 : ((s[k].toNat : Int) == 34) = true := by simp; omega
    clear h34 hA
    cases q
    all_goals
     go_wp2
     go_roundw
     case rel => exact ⟨k + 1, fr, _, a, L, by omega, hf2, by omega, by go_num, rfl, rfl, rfl, by omega, hown, HN.out, hB⟩
     case measure => simp [intOf]; omega
   have t34 : ((s[k].toNat : Int) == 34) = false := by simp; omega
   have N34 := κ h34
   clear h34
   cases q with
   | true =>
    have t92 : ((s[k].toNat : Int) == 92) = false := by simp; simp at hA; omega
    clear hA
    have HN := κ (show parts (us s) sep = L ++ partsGo sep true a (piece s fr (k + 1)) ((us s).drop (k + 1)) by rw [HP.out, hd.out, hpg.out, if_neg N34.out, if_pos rfl, ps.out])
    go_wp2
    go_roundw
    case rel => exact ⟨k + 1, fr, true, a, L, by omega, hf2, by omega, by go_num, rfl, rfl, rfl, by omega, hown, HN.out, hB⟩
    case measure => simp [intOf]; omega
   | false =>
    clear hA
    by_cases h60 : s[k].toNat = 60
    ·have HN := κ (show parts (us s) sep = L ++ partsGo sep false true (piece s fr (k + 1)) ((us s).drop (k + 1)) by rw [HP.out, hd.out, hpg.out, if_neg N34.out, if_neg (by decide), if_pos h60, ps.out])
     have t60 : ((s[k].toNat : Int) == 60) = true := by simp; omega
     clear h60
     go_wp2
     go_roundw
     case rel => exact ⟨k + 1, fr, false, true, L, by omega, hf2, by omega, by go_num, rfl, rfl, rfl, by omega, hown, HN.out, hB⟩
     case measure => simp [intOf]; omega
    have t60 : ((s[k].toNat : Int) == 60) = false := by simp; omega
    have N60 := κ h60
    clear h60
    by_cases h62 : s[k].toNat = 62
    ·have HN := κ (show parts (us s) sep = L ++ partsGo sep false false (piece s fr (k + 1)) ((us s).drop (k + 1)) by rw [HP.out, hd.out, hpg.out, if_neg N34.out, if_neg (by decide), if_neg N60.out, if_pos h62, ps.out])
     have t62 : ((s[k].toNat : Int) == 62) = true := by simp; omega
     clear h62
     go_wp2
     go_roundw
     case rel => exact ⟨k + 1, fr, false, false, L, by omega, hf2, by omega, by go_num, rfl, rfl, rfl, by omega, hown, HN.out, hB⟩
     case measure => simp [intOf]; omega
    have t62 : ((s[k].toNat : Int) == 62) = false := by simp; omega
    have N62 := κ h62
    clear h62
    by_cases hsp : s[k].toNat = sep.toNat ∧ a = false
    ·obtain ⟨hs1, rfl⟩ := hsp
     have HN := κ (show parts (us s) sep = (L ++ [piece s fr k]) ++ partsGo sep false false (piece s (k + 1) (k + 1)) ((us s).drop (k + 1)) by rw [HP.out, hd.out, hpg.out, if_neg N34.out, if_neg (by decide), if_neg N60.out, if_neg N62.out, if_pos ⟨hs1, rfl⟩, p0.out]; simp)
     have tsp : ((s[k].toNat : Int) == (sep.toNat : Int)) = true := by simp; omega
     clear hs1
     go_wp2_with (at_builtin; refine wpList_appS1 (piece s fr k) (us_extract s fr k) rfl rfl Tryz.underlying35 infoS rfl rfl hown hB (ρ _) ?_ ?_; (focus omega); intro v1 w1 ho1 hb1)
     go_roundw
     case rel => exact ⟨k + 1, k + 1, false, false, _, ρ _, by omega, by omega, by go_num, by go_num, rfl, rfl, by simp; omega, ho1, HN.out, hb1⟩
     case measure => simp [intOf]; omega
    have HN := κ (show parts (us s) sep = L ++ partsGo sep false a (piece s fr (k + 1)) ((us s).drop (k + 1)) by rw [HP.out, hd.out, hpg.out, if_neg N34.out, if_neg (by decide), if_neg N60.out, if_neg N62.out, if_neg hsp, ps.out])
    have hsp' : (((s[k].toNat : Int) == (sep.toNat : Int)) = true ∧ a = true) ∨ ((s[k].toNat : Int) == (sep.toNat : Int)) = false := by
     cases a
     ·right; simp; simp at hsp; omega
     ·by_cases h : s[k].toNat = sep.toNat
      ·left; exact ⟨by simp; omega, rfl⟩
      ·right; simp; omega
    clear hsp
    rcases hsp' with ⟨tsp, rfl⟩ | tsp
    all_goals
     go_wp2
     go_roundw
     case rel => exact ⟨k + 1, fr, false, _, L, by omega, hf2, by omega, by go_num, rfl, rfl, rfl, by omega, hown, HN.out, hB⟩
     case measure => simp [intOf]; omega
  ·have HN := κ (show parts (us s) sep = L ++ [(us s).drop fr] by rw [HP.out, drop_us_end s k (by omega), piece_end s fr k (by omega)]; simp [partsGo])
   go_wp2_with (at_builtin; refine wpList_appS1 ((us s).drop fr) (us_tail s fr) rfl rfl Tryz.underlying35 infoS rfl rfl hown hB (ρ _) ?_ ?_; (focus omega); intro v1 w1 ho1 hb1)
   go_ret
   exact ⟨_, rfl, (ho1.cast HN.out.symm), hb1⟩
set_option maxRecDepth 100000 in
set_option maxHeartbeats 6400000 in
theorem partsRF_c (s : ByteArray) (hs : s.size ≤ 4294967280) (sep : UInt8) (w : World) :
  Calls Tryz.prog 101 #[.string s, .int .u8 sep.toNat] w fun e w' => ∃ v, e = .returned v ∧ Strs w' w.heap.size 9 v (parts (us s) sep) ∧ Below w.heap.size w w' := by
 go_enter Tryz.func101, Tryz.ntmps101
 go_wp2
 go_loopw [5, 6, 7, 8, 9] (fun v vb qq aa i wr => ∃ (k : Nat) (q a : Bool) (cur : List UInt8) (L : List (List UInt8)), k ≤ s.size ∧ i = .int .i64 k ∧ qq = .bool q ∧ aa = .bool a ∧ L.length ≤ k ∧ cur.length ≤ k ∧ Strs wr w.heap.size 9 v L ∧ Byt wr w.heap.size 5 vb cur ∧ parts (us s) sep = L ++ partsGo sep q a cur ((us s).drop k) ∧ Below w.heap.size w wr) (fun _ _ _ _ i _ => s.size - (intOf i).toNat)
 case atStart => exact ⟨0, false, false, [], [], Nat.zero_le _, rfl, rfl, rfl, ρ _, ρ _, Strs.nil _ _ _, Byt.nil _ _ _, rfl, Below.refl _ _⟩
 case round =>
  obtain ⟨k, q, a, cur, L, hk, rfl, rfl, rfl, hl, hcl, hown, hownB, hp, hB⟩ := hrel
  have HP := κ hp; clear hp
  by_cases hlt : k < s.size
  ·have hd := κ (drop_us s k hlt)
   by_cases hA : q = true ∧ s[k].toNat = 92
   ·obtain ⟨rfl, h92⟩ := hA
    have t92 : ((s[k].toNat : Int) == 92) = true := by simp; omega
    by_cases hk1 : k + 1 < s.size
    ·have HN := κ (show parts (us s) sep = L ++ partsGo sep true a ((cur ++ [s[k]]) ++ [s[k + 1]]) ((us s).drop (k + 2)) by rw [HP.out, pg_esc2 sep a _ s k hk1 h92])
     clear h92
     go_wp2_with (first | (at_builtin; refine wpList_appK_B s[k] rfl rfl rfl Tryz.underlying149 infoB rfl rfl hownB hB (ρ _) ?_ ?_; (focus omega); intro v1 w1 ho1 hb1 hk1') | (at_builtin; refine wpList_appK_B s[k + 1] rfl rfl rfl Tryz.underlying149 infoB rfl rfl ho1 hb1 (ρ _) ?_ ?_; (focus (rw [List.length_append]; simp; omega)); intro v2 w2 ho2 hb2 hk2'))
     go_roundw
     case rel => exact ⟨k + 2, true, a, _, L, by omega, by go_num, rfl, rfl, by omega, by simp; omega, (hown.kept hk1' (by decide)).kept hk2' (by decide), ho2, HN.out, hb2⟩
     case measure => simp [intOf]; omega
    ·have HN := κ (show parts (us s) sep = L ++ partsGo sep true a (cur ++ [s[k]]) ((us s).drop (k + 1)) by rw [HP.out, pg_esc1 sep a _ s k hlt hk1 h92])
     clear h92
     go_wp2_with (at_builtin; refine wpList_appK_B s[k] rfl rfl rfl Tryz.underlying149 infoB rfl rfl hownB hB (ρ _) ?_ ?_; (focus omega); intro v1 w1 ho1 hb1 hk1')
     go_roundw
     case rel => exact ⟨k + 1, true, a, _, L, by omega, by go_num, rfl, rfl, by omega, by simp; omega, hown.kept hk1' (by decide), ho1, HN.out, hb1⟩
     case measure => simp [intOf]; omega
   have hpg := κ (pg_cons sep q a cur s[k] ((us s).drop (k + 1)) hA)
   by_cases h34 : s[k].toNat = 34
   ·have HN := κ (show parts (us s) sep = L ++ partsGo sep (!q) a (cur ++ [s[k]]) ((us s).drop (k + 1)) by rw [HP.out, hd.out, hpg.out, if_pos h34])
    have t92 : ((s[k].toNat : Int) == 92) = false := by simp; omega
    have t34 : ((s[k].toNat : Int) == 34) = true := by simp; omega
    have u34 : ((s[k].toNat : Int) != 34) = false := by simp; omega
    have t60 : ((s[k].toNat : Int) == 60) = false := by simp; omega
    have t62 : ((s[k].toNat : Int) == 62) = false := by simp; omega
    clear h34 hA
    cases q <;> cases a <;> cases tsep : ((s[k].toNat : Int) == (sep.toNat : Int))
    all_goals
     go_wp2_with (at_builtin; refine wpList_appK_B s[k] rfl rfl rfl Tryz.underlying149 infoB rfl rfl hownB hB (ρ _) ?_ ?_; (focus omega); intro v1 w1 ho1 hb1 hk1')
     go_roundw
     case rel => exact ⟨k + 1, _, _, _, L, by omega, by go_num, rfl, rfl, by omega, by simp; omega, hown.kept hk1' (by decide), ho1, HN.out, hb1⟩
     case measure => simp [intOf]; omega
   have t34 : ((s[k].toNat : Int) == 34) = false := by simp; omega
   have u34 : ((s[k].toNat : Int) != 34) = true := by simp; omega
   have N34 := κ h34
   clear h34
   cases q with
   | true =>
    have t92 : ((s[k].toNat : Int) == 92) = false := by simp; simp at hA; omega
    clear hA
    have HN := κ (show parts (us s) sep = L ++ partsGo sep true a (cur ++ [s[k]]) ((us s).drop (k + 1)) by rw [HP.out, hd.out, hpg.out, if_neg N34.out, if_pos rfl])
    go_wp2_with (at_builtin; refine wpList_appK_B s[k] rfl rfl rfl Tryz.underlying149 infoB rfl rfl hownB hB (ρ _) ?_ ?_; (focus omega); intro v1 w1 ho1 hb1 hk1')
    go_roundw
    case rel => exact ⟨k + 1, _, _, _, L, by omega, by go_num, rfl, rfl, by omega, by simp; omega, hown.kept hk1' (by decide), ho1, HN.out, hb1⟩
    case measure => simp [intOf]; omega
   | false =>
    clear hA
    by_cases h60 : s[k].toNat = 60
    ·have HN := κ (show parts (us s) sep = L ++ partsGo sep false true (cur ++ [s[k]]) ((us s).drop (k + 1)) by rw [HP.out, hd.out, hpg.out, if_neg N34.out, if_neg (by decide), if_pos h60])
     have t60 : ((s[k].toNat : Int) == 60) = true := by simp; omega
     have u60 : ((s[k].toNat : Int) != 60) = false := by simp; omega
     have t62 : ((s[k].toNat : Int) == 62) = false := by simp; omega
     clear h60
     cases a <;> cases tsep : ((s[k].toNat : Int) == (sep.toNat : Int))
     all_goals
      go_wp2_with (at_builtin; refine wpList_appK_B s[k] rfl rfl rfl Tryz.underlying149 infoB rfl rfl hownB hB (ρ _) ?_ ?_; (focus omega); intro v1 w1 ho1 hb1 hk1')
      go_roundw
      case rel => exact ⟨k + 1, _, _, _, L, by omega, by go_num, rfl, rfl, by omega, by simp; omega, hown.kept hk1' (by decide), ho1, HN.out, hb1⟩
      case measure => simp [intOf]; omega
    have t60 : ((s[k].toNat : Int) == 60) = false := by simp; omega
    have u60 : ((s[k].toNat : Int) != 60) = true := by simp; omega
    have N60 := κ h60
    clear h60
    by_cases h62 : s[k].toNat = 62
    ·have HN := κ (show parts (us s) sep = L ++ partsGo sep false false (cur ++ [s[k]]) ((us s).drop (k + 1)) by rw [HP.out, hd.out, hpg.out, if_neg N34.out, if_neg (by decide), if_neg N60.out, if_pos h62])
     have t62 : ((s[k].toNat : Int) == 62) = true := by simp; omega
     have u62 : ((s[k].toNat : Int) != 62) = false := by simp; omega
     clear h62
     cases a <;> cases tsep : ((s[k].toNat : Int) == (sep.toNat : Int))
     all_goals
      go_wp2_with (at_builtin; refine wpList_appK_B s[k] rfl rfl rfl Tryz.underlying149 infoB rfl rfl hownB hB (ρ _) ?_ ?_; (focus omega); intro v1 w1 ho1 hb1 hk1')
      go_roundw
      case rel => exact ⟨k + 1, _, _, _, L, by omega, by go_num, rfl, rfl, by omega, by simp; omega, hown.kept hk1' (by decide), ho1, HN.out, hb1⟩
      case measure => simp [intOf]; omega
    have t62 : ((s[k].toNat : Int) == 62) = false := by simp; omega
    have u62 : ((s[k].toNat : Int) != 62) = true := by simp; omega
    have N62 := κ h62
    clear h62
    by_cases hsp : s[k].toNat = sep.toNat ∧ a = false
    ·obtain ⟨hs1, rfl⟩ := hsp
     have HN := κ (show parts (us s) sep = (L ++ [cur]) ++ partsGo sep false false [] ((us s).drop (k + 1)) by rw [HP.out, hd.out, hpg.out, if_neg N34.out, if_neg (by decide), if_neg N60.out, if_neg N62.out, if_pos ⟨hs1, rfl⟩]; simp)
     have tsp : ((s[k].toNat : Int) == (sep.toNat : Int)) = true := by simp; omega
     clear hs1
     go_wp2_with (first | (refine wpList_str rfl rfl Tryz.underlying149 Tryz.underlying5 Tryz.underlying9 rfl hownB ?_) | (at_builtin; refine wpList_appK_S cur (us_bs _) rfl rfl Tryz.underlying35 infoS rfl rfl hown hB (ρ _) ?_ ?_; (focus omega); intro v1 w1 ho1 hb1 hk1'))
     go_roundw
     case rel => exact ⟨k + 1, false, false, [], _, by omega, by go_num, rfl, rfl, by simp; omega, by simp, ho1, Byt.nil _ _ _, HN.out, hb1⟩
     case measure => simp [intOf]; omega
    have HN := κ (show parts (us s) sep = L ++ partsGo sep false a (cur ++ [s[k]]) ((us s).drop (k + 1)) by rw [HP.out, hd.out, hpg.out, if_neg N34.out, if_neg (by decide), if_neg N60.out, if_neg N62.out, if_neg hsp])
    have hsp' : (((s[k].toNat : Int) == (sep.toNat : Int)) = true ∧ a = true) ∨ ((s[k].toNat : Int) == (sep.toNat : Int)) = false := by
     cases a
     ·right; simp; simp at hsp; omega
     ·by_cases h : s[k].toNat = sep.toNat
      ·left; exact ⟨by simp; omega, rfl⟩
      ·right; simp; omega
    clear hsp
    rcases hsp' with ⟨tsp, rfl⟩ | tsp
    ·skip
     go_wp2_with (at_builtin; refine wpList_appK_B s[k] rfl rfl rfl Tryz.underlying149 infoB rfl rfl hownB hB (ρ _) ?_ ?_; (focus omega); intro v1 w1 ho1 hb1 hk1')
     go_roundw
     case rel => exact ⟨k + 1, _, _, _, L, by omega, by go_num, rfl, rfl, by omega, by simp; omega, hown.kept hk1' (by decide), ho1, HN.out, hb1⟩
     case measure => simp [intOf]; omega
    ·cases a
     all_goals
      go_wp2_with (at_builtin; refine wpList_appK_B s[k] rfl rfl rfl Tryz.underlying149 infoB rfl rfl hownB hB (ρ _) ?_ ?_; (focus omega); intro v1 w1 ho1 hb1 hk1')
      go_roundw
      case rel => exact ⟨k + 1, _, _, _, L, by omega, by go_num, rfl, rfl, by omega, by simp; omega, hown.kept hk1' (by decide), ho1, HN.out, hb1⟩
      case measure => simp [intOf]; omega
  ·have HN := κ (show parts (us s) sep = L ++ [cur] by rw [HP.out, drop_us_end s k (by omega)]; simp [partsGo])
   go_wp2_with (first | (refine wpList_str rfl rfl Tryz.underlying149 Tryz.underlying5 Tryz.underlying9 rfl hownB ?_) | (at_builtin; refine wpList_appK_S cur (us_bs _) rfl rfl Tryz.underlying35 infoS rfl rfl hown hB (ρ _) ?_ ?_; (focus omega); intro v1 w1 ho1 hb1 hk1'))
   go_ret
   exact ⟨_, rfl, (ho1.cast HN.out.symm), hb1⟩
end Go.Proofs.YtgkilllbkljibaaGreatDoor
namespace Go.Proofs.YtgkilllbkljibaaGreatDoor
open Go.RowKit Go.Sort
def pp (v : List UInt8) : List (List UInt8) := parts v 44
theorem listV_bad (vals : List (List UInt8)) (c : Int) (h : hopsGo [] (vals.flatMap pp) = ([], c)) (hc : c ≠ 0) : listV vals = ([], c) := by
 unfold listV
 have e : (vals.flatMap fun v => parts v 44) = vals.flatMap pp := rfl
 rw [e, h, if_pos hc]
theorem listV_nil (vals : List (List UInt8)) (h : hopsGo [] (vals.flatMap pp) = ([], 0)) : listV vals = ([], 100) := by
 unfold listV
 have e : (vals.flatMap fun v => parts v 44) = vals.flatMap pp := rfl
 rw [e, h, if_neg (fun h => h rfl), if_pos rfl]
theorem listV_ok (vals : List (List UInt8)) (L : List Hop) (h : hopsGo [] (vals.flatMap pp) = (L, 0)) (hL : L ≠ []) : listV vals = (L, 0) := by
 unfold listV
 have e : (vals.flatMap fun v => parts v 44) = vals.flatMap pp := rfl
 rw [e, h, if_neg (fun h => h rfl), if_neg hL]
theorem allS_mem (H : List Hdr) (n x : List UInt8) (h : x ∈ allS H n) : ∃ q ∈ H, q.value = x := by
 unfold allS at h
 obtain ⟨q, hq, rfl⟩ := List.mem_map.1 h
 exact ⟨q, (List.mem_filter.1 hq).1, rfl⟩
theorem allS_len (H : List Hdr) (n : List UInt8) : (allS H n).length ≤ H.length := by
 unfold allS
 rw [List.length_map]
 exact List.length_filter_le _ _
theorem own_fresh {w : World} {base size n : Nat} {e : TypeId} {v : Value} {xs : List Value} (h : w.ownsRow base e size v n xs) : Fresh base v := by
 rcases h.2 with ⟨rfl, _⟩ | ⟨g, cap, cur, rfl, hb, _⟩
 ·exact Fresh.nil _ _ _
 ·intro a n c e
  injection e with e
  injection e with e
  rw [← e]; exact hb
theorem RPrms.to {w : World} {v : Value} {F G : List Prm} (h : RPrms w v F) (e : F = G) : RPrms w v G := e ▸ h
theorem Hops.free {w wx : World} {base : Nat} {v u : Value} {R : List (Hop × Value)} {q : Hop} (h : Hops w base v R) (hF : Fresh wx.heap.size u) (hs : w.heap.size ≤ wx.heap.size) : q.ps ≠ [] → ∀ a n c, u = .slice (some a) n c → v.ownBlock ≠ some a.block := by
 intro _ a n c e e2
 have h1 := h.lt _ e2
 have h2 := hF a n c e
 omega
theorem parts_cnt (c : UInt8) (l : List UInt8) : (parts l c).length ≤ l.length + 1 := by
 have key : ∀ L : List (List UInt8), L.length ≤ (glue [c] L).length + 1 := by
  intro L
  induction L with
  | nil => exact Nat.zero_le _
  | cons x r ih =>
   cases r with
   | nil => simp
   | cons y s =>
    rw [glue, List.length_append, List.length_append, List.length_singleton]
    rw [List.length_cons]; omega
 have := key (parts l c)
 rwa [glue_parts] at this
set_option maxRecDepth 100000 in
set_option maxHeartbeats 12800000 in
theorem list_c (M TG RS B : ByteArray) (X : Int) (u : Value) (H : List Hdr) (w : World) (hm : Ml w) (hu : RHdrs w u H) (hb : ∀ h ∈ H, h.name.length ≤ 1048576 ∧ h.value.length ≤ 1048576) (hH : H.length ≤ 1048576) :
  Calls Tryz.prog 65 #[.agg #[.string M, .string TG, .int .i64 X, .string RS, u, .string B]] w fun e w' => ∃ v, e = .returned (.tuple #[v, .int .i64 (listV (allS H nVia)).2]) ∧ RHops w' v (listV (allS H nVia)).1 ∧ Fresh w.heap.size v ∧ Below w.heap.size w w' := by
 have HM := κ hm
 clear hm
 have HU := κ hu
 obtain ⟨mo, mc, rfl, _, _⟩ := hu.form
 clear hu
 have HAL := κ (fun wx hx => all_c' M TG RS B X (.slice mo H.length mc) H ⟨#[86, 105, 97]⟩ (by decide) wx hx (fun h hh => by have := hb h hh; omega) (by omega))
 rw [show us ⟨#[86, 105, 97]⟩ = nVia from rfl] at HAL
 have hVb : ∀ x ∈ allS H nVia, x.length ≤ 1048576 := fun x hx => by
  obtain ⟨q, hq, rfl⟩ := allS_mem H nVia x hx
  exact (hb q hq).2
 have hVl := allS_len H nVia
 obtain ⟨VS, hVS⟩ : ∃ VS, VS = allS H nVia := ⟨_, rfl⟩
 rw [← hVS] at HAL hVb hVl ⊢
 have hVl2 : VS.length ≤ 1048576 := by omega
 have HVB := κ hVb
 clear hVS hVb hVl hb
 have HPB := κ (listV_bad VS)
 have HPN := κ (listV_nil VS)
 have HPO := κ (listV_ok VS)
 obtain ⟨A, hA⟩ : ∃ A, A = VS.flatMap pp := ⟨_, rfl⟩
 rw [← hA] at HPB HPN HPO
 have HAd := κ hA
 obtain ⟨Q, hQ⟩ : ∃ Q, Q = listV VS := ⟨_, rfl⟩
 rw [← hQ] at HPB HPN HPO ⊢
 clear hA hQ
 have hB0 : Below w.heap.size w (w.alloc (.cells #[.string M, .string TG, .int .i64 X, .string RS, .slice mo H.length mc, .string B] 24)) := (Below.refl _ _).alloc (ρ _) _
 obtain ⟨p0, p1, p2, p3, p4, p5⟩ := (Blk.new w 24 #[.string M, .string TG, .int .i64 X, .string RS, .slice mo H.length mc, .string B]).f6
 obtain ⟨w0, hw0⟩ : ∃ w0, w0 = w.alloc (.cells #[.string M, .string TG, .int .i64 X, .string RS, .slice mo H.length mc, .string B] 24) := ⟨_, rfl⟩
 rw [← hw0] at hB0 p0 p1 p2 p3 p4 p5
 have HW0 := κ hw0
 have HB0 := κ hB0
 clear hw0 hB0
 go_enter Tryz.func65, Tryz.ntmps65
 go_wp2_with (go_at_call 50; (try rw [← HW0.out]); refine (HAL.out _ (HU.out.below HB0.out (ρ _))).mono ?_; rintro e w1 ⟨va, rfl, hva, hC1⟩; have HB1 := κ (HB0.out.trans (hC1.mono HB0.out.size)); have HVA := κ hva; obtain ⟨ao, cap, rfl, hm1, c1⟩ := hva.form; have C1 := κ c1; clear hva c1 hC1)
 unfold maxLen at hm1
 go_loopw [4, 14] (fun v i wr => ∃ (j : Nat) (R : List (Hop × Value)), j ≤ VS.length ∧ i = .int .i64 j ∧ Hops wr w1.heap.size v R ∧ Hid (Below w1.heap.size w1 wr) ∧ R.length ≤ 16 ∧ Hid (hopsGo [] A = hopsGo (R.map Prod.fst) ((VS.drop j).flatMap pp))) (fun _ i _ => VS.length - (intOf i).toNat)
 case atStart => exact ⟨0, [], Nat.zero_le _, rfl, Hops.nil _ _, κ (Below.refl _ _), Nat.zero_le _, κ (by rw [HAd.out]; rfl)⟩
 case round =>
  obtain ⟨j, R, hj, rfl, hown, HB, hR, HP⟩ := hrel
  by_cases hlt : j < VS.length
  ·obtain ⟨b, off, rfl, hb1, hc1⟩ := C1.out (by omega)
   have x0 : wr.cell? ⟨b, off + j, none⟩ = some (.string (bs VS[j])) := (HB.out.cell (p := ⟨b, off + j, none⟩) hb1).trans (hc1 j hlt)
   have hvj := HVB.out VS[j] (List.getElem_mem hlt)
   have HPC := κ (fun wx => partsF_c (bs VS[j]) (by rw [size_bs]; omega) 44 wx)
   rw [us_bs] at HPC
   have hPb : ∀ y ∈ parts VS[j] 44, y.length ≤ 1048576 := fun y hy => Nat.le_trans (parts_bd 44 VS[j] y hy) hvj
   have hPn := parts_ne 44 VS[j]
   have hPl : (parts VS[j] 44).length ≤ 1048577 := by
    have h1 := parts_cnt 44 VS[j]
    omega
   have HP2 := κ (show hopsGo [] A = hopsGo (R.map Prod.fst) (parts VS[j] 44 ++ (VS.drop (j + 1)).flatMap pp) by rw [HP.out, List.drop_eq_getElem_cons hlt, List.flatMap_cons]; rfl)
   obtain ⟨P, hPd⟩ : ∃ P, P = parts VS[j] 44 := ⟨_, rfl⟩
   rw [← hPd] at HPC hPb hPn hPl HP2
   have HPBD := κ hPb
   have hP0 : 0 < P.length := by rcases Nat.eq_zero_or_pos P.length with h | h; exact absurd (List.eq_nil_of_length_eq_zero h) hPn; exact h
   obtain ⟨S, hS⟩ : ∃ S, S = bs VS[j] := ⟨_, rfl⟩
   rw [← hS] at x0 HPC
   have k0 : (0 : Int) ≤ (j : Int) := by omega
   clear hPd hPb hPn hS hvj hc1 hb1 HP
   go_wp2_with (go_at_call 82; refine (HPC.out _).mono ?_; rintro e w2 ⟨vp, rfl, hvp, hC2⟩; have hown := hown.below hC2 (ρ _); have HB2 := κ (HB.out.trans (hC2.mono HB.out.size)); obtain ⟨ao2, cap2, rfl, hm2, c2⟩ := hvp.read.form; obtain ⟨b2, off2, rfl, hb2, _⟩ := c2 hP0; clear c2)
   unfold maxLen at hm2
   obtain ⟨base2, hbase2⟩ : ∃ x, x = wr.heap.size := ⟨_, rfl⟩
   rw [← hbase2] at hvp
   have HV0 := κ hvp
   have HOW := κ hown
   clear hbase2 hvp hown x0 hb2
   go_loopw [4, 21] (fun v i wr => ∃ (k : Nat) (R : List (Hop × Value)), k ≤ P.length ∧ i = .int .i64 k ∧ Hops wr w1.heap.size v R ∧ Hid (Below w1.heap.size w1 wr) ∧ R.length ≤ 16 ∧ Strs wr base2 9 (.slice (some ⟨b2, off2, none⟩) P.length cap2) P ∧ Hid (hopsGo [] A = hopsGo (R.map Prod.fst) (P.drop k ++ (VS.drop (j + 1)).flatMap pp))) (fun _ i _ => P.length - (intOf i).toNat)
   case atStart => exact ⟨0, R, Nat.zero_le _, rfl, HOW.out, HB2, hR, HV0.out, HP2⟩
   case round =>
    obtain ⟨k, R, hk, rfl, hown, HB, hR, hvp, HP⟩ := hrel
    by_cases hlt2 : k < P.length
    ·have x1 := hvp.at_ hlt2
     have hpk := HPBD.out P[k] (List.getElem_mem hlt2)
     have HPA := κ (fun wx hx => parseV_c (bs P[k]) (by rw [size_bs]; omega) wx hx)
     rw [us_bs] at HPA
     unfold HopPost at HPA
     have hst : hopsGo [] A = if (parseV P[k]).2 ≠ 0 then ([], (parseV P[k]).2) else if 16 ≤ R.length then ([], 4) else hopsGo ((R ++ [((parseV P[k]).1, Value.bool true)]).map Prod.fst) (P.drop (k + 1) ++ (VS.drop (j + 1)).flatMap pp) := by
      rw [HP.out, List.drop_eq_getElem_cons hlt2, List.cons_append, hopsGo, List.length_map, List.map_append]; rfl
     have hln := hops_len hown
     obtain ⟨y, hy⟩ : ∃ y, y = parseV P[k] := ⟨_, rfl⟩
     rw [← hy] at HPA hst
     obtain ⟨S2, hS2⟩ : ∃ S2, S2 = bs P[k] := ⟨_, rfl⟩
     rw [← hS2] at x1 HPA
     clear hy hS2 hpk HP
     obtain ⟨q, c⟩ := y
     dsimp only at HPA hst
     unfold sv at HPA
     obtain ⟨N, hN⟩ : ∃ N, N = bs q.host := ⟨_, rfl⟩
     have HN := κ (show us N = q.host by rw [hN, us_bs])
     rw [← hN] at HPA
     have k1 : (0 : Int) ≤ (k : Int) := by omega
     obtain ⟨n, hn⟩ : ∃ n, n = q.port := ⟨_, rfl⟩
     rw [← hn] at HPA
     have HNp := κ hn
     obtain ⟨F, hF⟩ : ∃ F, F = q.ps := ⟨_, rfl⟩
     rw [← hF] at HPA
     have HFp := κ hF
     clear hN hn hF
     by_cases hc : c = 0
     ·subst hc
      rw [if_neg (fun h => h rfl)] at hst
      by_cases h16 : 16 ≤ R.length
      ·rw [if_pos h16] at hst
       have e16 : R.length = 16 := by omega
       have t16 : ((R.length : Int) == 16) = true := by rw [e16]; rfl
       have t17 : (16 : Int) ≤ (R.length : Int) := by omega
       have HE := κ (HPB.out 4 hst (by decide))
       clear hst h16 e16
       go_wp2_with ((go_at_call 119; refine (HPA.out _ (HM.out.below (HB1.out.trans (HB.out.mono HB1.out.size)))).mono ?_; rintro e w3 ⟨u3, rfl, hu3, hF3, hC3⟩; obtain ⟨ao3, cap3, rfl, _, _⟩ := hu3.form; have hfree : q.ps ≠ [] → ∀ a n c, (.slice ao3 F.length cap3 : Value) = .slice (some a) n c → _ := hown.free (q := q) hF3 (ρ _); have hC := hC3.alloc hC3.size (.cells #[.string N, .int .i64 n, .slice ao3 F.length cap3] 90); have hB := HB.out.trans (hC.mono HB.out.size); have hown := hown.below hC (ρ _); have hvp := hvp.below hC (ρ _); have hu3 := hu3.below ((Below.refl _ _).alloc (ρ _) (.cells #[.string N, .int .i64 n, .slice ao3 F.length cap3] 90)) (ρ _); obtain ⟨n0, n1, n2, _, _, _, _⟩ := (Blk.new w3 90 #[.string N, .int .i64 n, .slice ao3 F.length cap3]).f3))
       go_ret2
       exact ⟨_, by rw [HE.out]; rfl, by rw [HE.out]; exact RHops.nil _, Fresh.nil _ _ _, HB1.out.trans (hB.mono HB1.out.size)⟩
      ·rw [if_neg h16] at hst
       have t16 : ((R.length : Int) == 16) = false := by rw [beq_eq_false_iff_ne]; omega
       have t17 : ¬ ((16 : Int) ≤ (R.length : Int)) := by omega
       have HST := κ hst
       clear hst
       go_wp2_with (first | (go_at_call 119; refine (HPA.out _ (HM.out.below (HB1.out.trans (HB.out.mono HB1.out.size)))).mono ?_; rintro e w3 ⟨u3, rfl, hu3, hF3, hC3⟩; obtain ⟨ao3, cap3, rfl, _, _⟩ := hu3.form; have hfree : q.ps ≠ [] → ∀ a n c, (.slice ao3 F.length cap3 : Value) = .slice (some a) n c → _ := hown.free (q := q) hF3 (ρ _); have hC := hC3.alloc hC3.size (.cells #[.string N, .int .i64 n, .slice ao3 F.length cap3] 90); have hB := HB.out.trans (hC.mono HB.out.size); have hown := hown.below hC (ρ _); have hvp := hvp.below hC (ρ _); have hu3 := hu3.below ((Below.refl _ _).alloc (ρ _) (.cells #[.string N, .int .i64 n, .slice ao3 F.length cap3] 90)) (ρ _); obtain ⟨n0, n1, n2, _, _, _, _⟩ := (Blk.new w3 90 #[.string N, .int .i64 n, .slice ao3 F.length cap3]).f3) | (at_builtin; refine wpList_appVK q HN.out HNp.out rfl rfl Tryz.underlying85 infoV (by rw [World.size_alloc]; rfl) rfl hown (hu3.to HFp.out) hfree hB (ρ _) ?_ ?_; (focus omega); intro v1 w4 ho1 hb1 hk1))
       go_roundw
       case rel => exact ⟨k + 1, _, by omega, by go_num, ho1, κ hb1, by rw [List.length_append]; simp; omega, hvp.kept hk1 (by decide), κ (by rw [HST.out]; simp only [List.map_append, List.map_cons])⟩
       case measure => simp [intOf]; omega
     ·rw [if_pos hc] at hst
      have t0 : (c != 0) = true := by simpa using hc
      have HE := κ (HPB.out c hst hc)
      clear hst hc
      go_wp2_with ((go_at_call 119; refine (HPA.out _ (HM.out.below (HB1.out.trans (HB.out.mono HB1.out.size)))).mono ?_; rintro e w3 ⟨u3, rfl, hu3, hF3, hC3⟩; obtain ⟨ao3, cap3, rfl, _, _⟩ := hu3.form; have hfree : q.ps ≠ [] → ∀ a n c, (.slice ao3 F.length cap3 : Value) = .slice (some a) n c → _ := hown.free (q := q) hF3 (ρ _); have hC := hC3.alloc hC3.size (.cells #[.string N, .int .i64 n, .slice ao3 F.length cap3] 90); have hB := HB.out.trans (hC.mono HB.out.size); have hown := hown.below hC (ρ _); have hvp := hvp.below hC (ρ _); have hu3 := hu3.below ((Below.refl _ _).alloc (ρ _) (.cells #[.string N, .int .i64 n, .slice ao3 F.length cap3] 90)) (ρ _); obtain ⟨n0, n1, n2, _, _, _, _⟩ := (Blk.new w3 90 #[.string N, .int .i64 n, .slice ao3 F.length cap3]).f3))
      go_ret2
      exact ⟨_, by rw [HE.out]; rfl, by rw [HE.out]; exact RHops.nil _, Fresh.nil _ _ _, HB1.out.trans (hB.mono HB1.out.size)⟩
    ·have HST := κ (show hopsGo [] A = hopsGo (R.map Prod.fst) ((VS.drop (j + 1)).flatMap pp) by rw [HP.out, List.drop_eq_nil_iff.2 (by omega)]; rfl)
     clear HP
     go_wp2
     go_roundw
     case rel => exact ⟨j + 1, R, by omega, by go_num, hown, HB, hR, HST⟩
     case measure => simp [intOf]; omega
  ·have hst : hopsGo [] A = (R.map Prod.fst, 0) := by rw [HP.out, List.drop_eq_nil_iff.2 (by omega)]; rfl
   have hln := hops_len hown
   have HBF := κ (HB1.out.trans (HB.out.mono HB1.out.size))
   by_cases hz : R.length = 0
   ·have t1 : ((R.length : Int) == 0) = true := by rw [hz]; rfl
    have HE := κ (HPN.out (by rw [hst, List.eq_nil_of_length_eq_zero hz]; rfl))
    clear hst hz HP
    go_wp2
    go_ret2
    exact ⟨_, by rw [HE.out]; rfl, by rw [HE.out]; exact RHops.nil _, Fresh.nil _ _ _, HBF.out⟩
   ·have t1 : ((R.length : Int) == 0) = false := by rw [beq_eq_false_iff_ne]; omega
    have HE := κ (HPO.out _ hst (by intro e; have := congrArg List.length e; rw [List.length_map, List.length_nil] at this; omega))
    clear hst hz HP
    go_wp2
    go_ret2
    exact ⟨_, by rw [HE.out]; rfl, by rw [HE.out]; exact hown.read, (own_fresh hown.1).mono HB1.out.size, HBF.out⟩
structure Uri where
 scheme : List UInt8
 user : List UInt8
 host : List UInt8
 port : Int
 ps : List Prm
 hs : List Prm
deriving DecidableEq
def uri0 : Uri := ⟨[], [], [], 0, [], []⟩
def nSip : List UInt8 := [115, 105, 112]
def nSips : List UInt8 := [115, 105, 112, 115]
def nPres : List UInt8 := [112, 114, 101, 115]
def schemeS (l : List UInt8) : Bool := l == nSip || l == nSips || l == nPres
def kUsers : List UInt8 := [38, 61, 43, 36, 44, 59, 63, 47]
def kParams : List UInt8 := [91, 93, 47, 58, 38, 43, 36]
def kHeaders : List UInt8 := [91, 93, 47, 63, 58, 43, 36]
def okU (p : Prm) : Bool := decide (1 ≤ p.name.length) && decide (p.name.length ≤ 64) && decide (p.value.length ≤ 64) && (p.has || p.value == [])
def twiceU (d : List Prm) (n : List UInt8) : Bool := d.any fun q => same q.name n
def listGo : List Prm → List Prm → Bool
 | _, [] => true
 | d, p :: r => okU p && !(twiceU d p.name) && listGo (d ++ [p]) r
def listU (L : List Prm) : Bool := decide (L.length ≤ 16) && listGo [] L
def checkU (u : Uri) : Int :=
 if schemeS u.scheme = false then 30 else if 64 < u.user.length then 31 else if hostS u.host = false then 32
 else if u.port < 0 ∨ 65535 < u.port then 33 else if listU u.ps = false then 34 else if listU u.hs = false then 34 else if (u.hs.all fun h => h.has) = false then 34 else 0
def mayW (keep : List UInt8) (c : UInt8) : Bool := c.toNat == 37 || testc 16 c || hasb keep c
def writtenS (l keep : List UInt8) : Option (List UInt8) := if l.all (mayW keep) = true then unesc l else none
def readGo (keep : List UInt8) : List (List UInt8) → Option (List Prm)
 | [] => some []
 | x :: r => (writtenS (cutb 61 x).1 keep).bind fun n => (writtenS (cutb 61 x).2.1 keep).bind fun v => (readGo keep r).map (⟨n, v, (cutb 61 x).2.2⟩ :: ·)
def userS (l : List UInt8) : Option (List UInt8 × List UInt8) :=
 if (cutb 64 l).2.2 = true then
  match writtenS (cutb 64 l).1 kUsers with
  | some t => if t = [] ∨ 64 < t.length then none else some (t, (cutb 64 l).2.1)
  | none => none
 else some ([], l)
def endU (u : Uri) : Uri × Int := if checkU u = 0 then (u, 0) else (uri0, checkU u)
def parseU4 (sc us : List UInt8) (w : (List UInt8 × Int) × Int) (P H : Option (List Prm)) : Uri × Int :=
 if w.2 ≠ 0 then (uri0, w.2) else
 match P, H with
 | some P, some H => endU ⟨sc, us, w.1.1, w.1.2, P, H⟩
 | _, _ => (uri0, 34)
def parseU3 (sc us r : List UInt8) : Uri × Int :=
 parseU4 sc us (whereS ((splitc 59 (cutb 63 r).1).headD [])) (readGo kParams (splitc 59 (cutb 63 r).1).tail) (if (cutb 63 r).2.2 = true then readGo kHeaders (splitc 38 (cutb 63 r).2.1) else some [])
def parseU2 (sc r : List UInt8) : Uri × Int :=
 match userS r with
 | none => (uri0, 31)
 | some x => parseU3 sc x.1 x.2
def parseU (l : List UInt8) : Uri × Int :=
 if (cutb 58 l).2.2 = false ∨ schemeS (lowr (cutb 58 l).1) = false then (uri0, 30) else parseU2 (lowr (cutb 58 l).1) (cutb 58 l).2.1
theorem listGo_ok : ∀ (L d : List Prm), listGo d L = true → ∀ p ∈ L, okU p = true
 | [], _, _ => fun p hp => by cases hp
 | q :: r, d, h => by
  rw [listGo, Bool.and_eq_true, Bool.and_eq_true] at h
  intro p hp
  rcases List.mem_cons.1 hp with rfl | hp
  ·exact h.1.1
  ·exact listGo_ok r (d ++ [q]) h.2 p hp
theorem listU_ok {L : List Prm} (h : listU L = true) : L.length ≤ 16 ∧ ∀ p ∈ L, 1 ≤ p.name.length ∧ p.name.length ≤ 64 ∧ p.value.length ≤ 64 ∧ (p.has = true ∨ p.value = []) := by
 unfold listU at h
 rw [Bool.and_eq_true, decide_eq_true_eq] at h
 refine ⟨h.1, fun p hp => ?_⟩
 have := listGo_ok L [] h.2 p hp
 unfold okU at this
 simpa [and_assoc] using this
theorem checkU_parts (u : Uri) (h : checkU u = 0) : schemeS u.scheme = true ∧ u.user.length ≤ 64 ∧ hostS u.host = true ∧ 0 ≤ u.port ∧ u.port ≤ 65535 ∧ listU u.ps = true ∧ listU u.hs = true ∧ (u.hs.all fun h => h.has) = true := by
 unfold checkU at h
 cases h1 : schemeS u.scheme
 ·rw [h1, if_pos rfl] at h; exact absurd h (by decide)
 ·rw [h1, if_neg (by decide)] at h
  split at h
  ·exact absurd h (by decide)
  ·rename_i h2
   cases h3 : hostS u.host
   ·rw [h3, if_pos rfl] at h; exact absurd h (by decide)
   ·rw [h3, if_neg (by decide)] at h
    split at h
    ·exact absurd h (by decide)
    ·rename_i h4
     cases h5 : listU u.ps
     ·rw [h5, if_pos rfl] at h; exact absurd h (by decide)
     ·rw [h5, if_neg (by decide)] at h
      cases h6 : listU u.hs
      ·rw [h6, if_pos rfl] at h; exact absurd h (by decide)
      ·rw [h6, if_neg (by decide)] at h
       cases h7 : (u.hs.all fun h => h.has)
       ·rw [h7, if_pos rfl] at h; exact absurd h (by decide)
       ·exact ⟨rfl, by omega, rfl, by omega, by omega, rfl, rfl, rfl⟩
theorem scheme_facts (l : List UInt8) (h : schemeS l = true) : (∀ x ∈ l, x.toNat ≠ 58) ∧ lowr l = l ∧ l.length ≤ 4 ∧ (∀ x ∈ l, x.toNat ≠ 62 ∧ x.toNat ≠ 60 ∧ x.toNat ≠ 34) ∧ l ≠ [] := by
 unfold schemeS at h
 simp only [Bool.or_eq_true, beq_iff_eq] at h
 rcases h with (rfl | rfl) | rfl <;> exact ⟨by decide, by decide +kernel, by decide, by decide, by decide⟩
theorem endU_ok (u : Uri) : ((endU u).2 = 0 → checkU (endU u).1 = 0) ∧ ((endU u).2 ≠ 0 → (endU u).1 = uri0) := by
 unfold endU
 split
 ·rename_i h; exact ⟨fun _ => h, fun h => absurd rfl h⟩
 ·rename_i h; exact ⟨fun h1 => absurd h1 h, fun _ => rfl⟩
theorem parseU_ok (l : List UInt8) : ((parseU l).2 = 0 → checkU (parseU l).1 = 0) ∧ ((parseU l).2 ≠ 0 → (parseU l).1 = uri0) := by
 have bad : ∀ c : Int, c ≠ 0 → ((uri0, c).2 = 0 → checkU (uri0, c).1 = 0) ∧ ((uri0, c).2 ≠ 0 → (uri0, c).1 = uri0) := fun c hc => ⟨fun h => absurd h hc, fun _ => rfl⟩
 unfold parseU
 split
 ·exact bad 30 (by decide)
 ·unfold parseU2
  split
  ·exact bad 31 (by decide)
  ·unfold parseU3 parseU4
   split
   ·rename_i h; exact bad _ h
   ·split
    ·exact endU_ok _
    ·exact bad 34 (by decide)
structure Adr where
 disp : List UInt8
 uri : Uri
 ps : List Prm
deriving DecidableEq
def adr0 : Adr := ⟨[], uri0, []⟩
def nTag : List UInt8 := [116, 97, 103]
def checkA (a : Adr) : Int := if (quote a.disp).2 ≠ 0 ∨ 64 < a.disp.length then 50 else if checkU a.uri ≠ 0 then checkU a.uri else (textS a.ps).2
def wordsGo : List UInt8 → List UInt8 → List (List UInt8)
 | cur, [] => if cur = [] then [] else [cur]
 | cur, c :: r => if blank c = true then (if cur = [] then wordsGo [] r else cur :: wordsGo [] r) else wordsGo (cur ++ [c]) r
def dispb (c : UInt8) : Bool := blank c || testc 8 c
def dispT (t : List UInt8) : Option (List UInt8) :=
 if opens 34 t = true then (if (unquote t).2 = 0 then some (unquote t).1 else none)
 else if t.all dispb = true then some (glue [32] (wordsGo [] t)) else none
def displayS (l : List UInt8) : Option (List UInt8) := dispT (trim l)
def angGo : Bool → List UInt8 → Int → Int
 | _, [], _ => -1
 | q, c :: r, k =>
  if q = true ∧ c.toNat = 92 then
   match r with
   | [] => -1
   | _ :: r' => angGo q r' (k + 2)
  else if c.toNat = 34 then angGo (!q) r (k + 1)
  else if q = false ∧ c.toNat = 60 then k
  else angGo q r (k + 1)
def angS (l : List UInt8) : Int := angGo false l 0
def barb (c : UInt8) : Bool := c.toNat == 63 || c.toNat == 44 || c.toNat == 34
def endA (d : List UInt8) (u : Uri × Int) (h : List UInt8) (f : List Prm × Int) : Adr × Int :=
 if u.2 ≠ 0 then (adr0, u.2) else if trim h ≠ [] then (adr0, 50) else if f.2 ≠ 0 then (adr0, f.2) else (⟨d, u.1, f.1⟩, 0)
def parseA2 (d wh bh : List UInt8) : Adr × Int := endA d (parseU wh) ((parts bh 59).headD []) (fieldsS (parts bh 59).tail)
def parseN (d : Option (List UInt8)) (c : List UInt8 × List UInt8 × Bool) : Adr × Int :=
 match d with
 | none => (adr0, 50)
 | some d => if 64 < d.length ∨ c.2.2 = false then (adr0, 50) else parseA2 d c.1 c.2.1
def parseB (s wh : List UInt8) : Adr × Int := if wh.any barb = true then (adr0, 50) else parseA2 [] wh (s.drop (cutb 59 s).1.length)
def parseA1 (s : List UInt8) : Adr × Int :=
 if 0 ≤ angS s then parseN (displayS (s.take (angS s).toNat)) (cutb 62 (s.drop ((angS s).toNat + 1)))
 else parseB s (trim (cutb 59 s).1)
def parseA (l : List UInt8) : Adr × Int := parseA1 (trim l)
def adrsGo (L : List Adr) : List (List UInt8) → List Adr × Int
 | [] => (L, 0)
 | x :: r => if (parseA x).2 ≠ 0 then ([], (parseA x).2) else adrsGo (L ++ [(parseA x).1]) r
def listA (l : List UInt8) : List Adr × Int := if 16 < (parts l 44).length then ([], 4) else adrsGo [] (parts l 44)
def tagA (a : Adr) : List UInt8 := (value a.ps nTag).1
theorem ang_cons (q : Bool) (c : UInt8) (r : List UInt8) (k : Int) (h : ¬ (q = true ∧ c.toNat = 92)) : angGo q (c :: r) k = if c.toNat = 34 then angGo (!q) r (k + 1) else if q = false ∧ c.toNat = 60 then k else angGo q r (k + 1) := by
 cases r <;> (rw [angGo.eq_def]; dsimp only; rw [if_neg h])
theorem ang_esc (c d : UInt8) (r : List UInt8) (k : Int) (h : c.toNat = 92) : angGo true (c :: d :: r) k = angGo true r (k + 2) := by
 rw [angGo.eq_def]; dsimp only; rw [if_pos ⟨rfl, h⟩]
theorem checkA_parts (a : Adr) (h : checkA a = 0) : (quote a.disp).2 = 0 ∧ a.disp.length ≤ 64 ∧ checkU a.uri = 0 ∧ (textS a.ps).2 = 0 := by
 unfold checkA at h
 split at h
 ·exact absurd h (by decide)
 ·rename_i h1
  split at h
  ·rename_i h2; exact absurd h h2
  ·rename_i h2
   by_cases hq : (quote a.disp).2 = 0
   ·refine ⟨hq, ?_, ?_, h⟩
    ·by_cases hl : 64 < a.disp.length
     ·exact absurd (.inr hl) h1
     ·omega
    ·by_cases hc : checkU a.uri = 0
     ·exact hc
     ·exact absurd hc h2
   ·exact absurd (.inl hq) h1
theorem unqGo_ok : ∀ (l r : List UInt8), unqGo l = some r → r.any broken = false
 | [], r, h => by rw [unqGo] at h; injection h with h; rw [← h]; rfl
 | [c], r, h => by
  rw [unqGo] at h
  split at h
  ·rename_i hb
   injection h with h
   rw [← h, List.any_cons, List.any_nil, Bool.or_false]
   exact bare_broken c hb
  ·cases h
 | c :: d :: r, x, h => by
  rw [unqGo] at h
  split at h
  ·split at h
   ·cases h
   ·rename_i hd
    obtain ⟨y, hy, rfl⟩ := Option.map_eq_some_iff.1 h
    rw [List.any_cons, unqGo_ok r y hy, Bool.or_false]
    simp only [Bool.or_eq_true, not_or] at hd
    simpa using hd.1
  ·split at h
   ·rename_i hb
    obtain ⟨y, hy, rfl⟩ := Option.map_eq_some_iff.1 h
    rw [List.any_cons, unqGo_ok (d :: r) y hy, Bool.or_false]
    exact bare_broken c hb
   ·cases h
where
 bare_broken (c : UInt8) (h : bare c = true) : broken c = false := by
  have := all_bytes (fun c => bare c = true → broken c = false) (by decide +kernel) c
  exact this h
theorem quote_of (l : List UInt8) (h : l.any broken = false) : (quote l).2 = 0 := by
 unfold quote
 rw [h, if_neg (by decide)]
theorem unquote_ok0 (l : List UInt8) (h : (unquote l).2 = 0) : (quote (unquote l).1).2 = 0 := by
 unfold unquote at h ⊢
 split
 ·rename_i h1; rw [if_pos h1] at h; exact absurd h (by decide)
 ·rename_i h1
  rw [if_neg h1] at h
  cases hu : unqGo ((l.drop 1).take (l.length - 2)) with
  | none => rw [hu] at h; exact absurd h (by decide)
  | some r => exact quote_of _ (unqGo_ok _ _ hu)
theorem words_broken : ∀ (l cur : List UInt8), l.all dispb = true → (∀ c ∈ cur, broken c = false) → ∀ w ∈ wordsGo cur l, ∀ c ∈ w, broken c = false
 | [], cur, _, hc => by
  intro w hw
  rw [wordsGo] at hw
  split at hw
  ·cases hw
  ·rw [List.mem_singleton] at hw; subst hw; exact hc
 | c :: r, cur, h, hc => by
  rw [List.all_cons, Bool.and_eq_true] at h
  intro w hw
  rw [wordsGo] at hw
  have h0 : ∀ c ∈ ([] : List UInt8), broken c = false := fun c hc => by cases hc
  split at hw
  ·split at hw
   ·exact words_broken r [] h.2 h0 w hw
   ·rcases List.mem_cons.1 hw with rfl | hw
    ·exact hc
    ·exact words_broken r [] h.2 h0 w hw
  ·refine words_broken r (cur ++ [c]) h.2 (fun d hd => ?_) w hw
   rcases List.mem_append.1 hd with hd | hd
   ·exact hc d hd
   ·rw [List.mem_singleton] at hd
    subst hd
    have := all_bytes (fun c => dispb c = true → broken c = false) (by decide +kernel) d
    exact this h.1
theorem glue_mem (sep : List UInt8) : ∀ (L : List (List UInt8)), ∀ c ∈ glue sep L, (∃ w ∈ L, c ∈ w) ∨ c ∈ sep
 | [], c, h => by cases h
 | [x], c, h => .inl ⟨x, List.mem_cons_self .., h⟩
 | x :: y :: r, c, h => by
  rw [glue] at h
  rcases List.mem_append.1 h with h | h
  ·exact .inl ⟨x, List.mem_cons_self .., h⟩
  ·rcases List.mem_append.1 h with h | h
   ·exact .inr h
   ·rcases glue_mem sep (y :: r) c h with ⟨w, hw, hc⟩ | h
    ·exact .inl ⟨w, List.mem_cons_of_mem _ hw, hc⟩
    ·exact .inr h
theorem display_ok (l d : List UInt8) (h : displayS l = some d) : (quote d).2 = 0 := by
 unfold displayS dispT at h
 split at h
 ·split at h
  ·rename_i hu; injection h with h; rw [← h]; exact unquote_ok0 _ hu
  ·cases h
 ·split at h
  ·rename_i ha
   injection h with h
   refine quote_of _ ?_
   rw [List.any_eq_false]
   intro c hc
   rw [← h] at hc
   rcases glue_mem _ _ c hc with ⟨w, hw, hcw⟩ | hc
   ·rw [words_broken _ [] ha (fun c hc => by cases hc) w hw c hcw]; decide
   ·rw [List.mem_singleton] at hc; subst hc; decide +kernel
  ·cases h
theorem endA_ok (d : List UInt8) (wh h : List UInt8) (Ps : List (List UInt8)) (hd : (quote d).2 = 0) (hl : d.length ≤ 64) :
  ((endA d (parseU wh) h (fieldsS Ps)).2 = 0 → checkA (endA d (parseU wh) h (fieldsS Ps)).1 = 0) ∧ ((endA d (parseU wh) h (fieldsS Ps)).2 ≠ 0 → (endA d (parseU wh) h (fieldsS Ps)).1 = adr0) := by
 unfold endA
 by_cases h1 : (parseU wh).2 = 0
 ·rw [if_neg (fun x => x h1)]
  by_cases h2 : trim h = []
  ·rw [if_neg (fun x => x h2)]
   by_cases h3 : (fieldsS Ps).2 = 0
   ·rw [if_neg (fun x => x h3)]
    refine ⟨fun _ => ?_, fun x => absurd rfl x⟩
    unfold checkA
    dsimp only
    have hu := (parseU_ok wh).1 h1
    rw [if_neg (by rintro (x | x); exact x hd; omega), if_neg (fun x => x hu)]
    exact fields_textS Ps h3
   ·rw [if_pos h3]; exact ⟨fun x => absurd x h3, fun _ => rfl⟩
  ·rw [if_pos h2]; exact ⟨fun x => absurd x (by decide), fun _ => rfl⟩
 ·rw [if_pos h1]; exact ⟨fun x => absurd x h1, fun _ => rfl⟩
theorem parseA_ok (l : List UInt8) : ((parseA l).2 = 0 → checkA (parseA l).1 = 0) ∧ ((parseA l).2 ≠ 0 → (parseA l).1 = adr0) := by
 have bad : ((adr0, (50 : Int)).2 = 0 → checkA (adr0, (50 : Int)).1 = 0) ∧ ((adr0, (50 : Int)).2 ≠ 0 → (adr0, (50 : Int)).1 = adr0) := ⟨fun h => absurd h (by decide), fun _ => rfl⟩
 unfold parseA parseA1
 split
 ·unfold parseN
  cases hd : displayS ((trim l).take (angS (trim l)).toNat) with
  | none => exact bad
  | some d =>
   dsimp only
   split
   ·exact bad
   ·rename_i h1
    exact endA_ok d _ _ _ (display_ok _ _ hd) (by
     by_cases hl : 64 < d.length
     ·exact absurd (.inl hl) h1
     ·omega)
 ·unfold parseB
  split
  ·exact bad
  ·exact endA_ok [] _ _ _ rfl (Nat.zero_le _)
end Go.Proofs.YtgkilllbkljibaaGreatDoor
