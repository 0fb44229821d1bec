/-
  Append of a hop, with what it keeps; Parts with a row of the call's own.
-/
import Derived.Test.YtjohecbmeoalaaaDoorHop
namespace Go.Proofs.YtjohecbmeoalaaaDoor
open Go.RowKit

theorem Strs.at_ {w : World} {base b off cap k : Nat} {e : TypeId} {L : List (List UInt8)} (h : Strs w base e (.slice (some ⟨b, off, none⟩) L.length cap) L) (hk : k < L.length) : w.cell? ⟨b, off + k, none⟩ = some (.string (bs L[k])) := by
  obtain ⟨ao, c, e1, _, h2⟩ := h.read.form
  obtain ⟨b', off', e2, _, h3⟩ := h2 (by omega)
  injection e1 with e1 _ _
  rw [e2] at e1
  injection e1 with e1
  injection e1 with e3 e4
  subst e3 e4
  exact h3 k hk
section
variable {P : Program} {ops : Array Oper} {rest : List Oper} {o : Oper} {a : Act} {Q : Exit → Act → World → Prop}
/-- append of one hop that has just been laid -/
theorem op_appVK {K : Act → World → Prop} {wE w : World} {base : Nat} {t : TypeId} {v u : Value} {R : List (Hop × Value)} {s x : Operand} {N : ByteArray} {n : Int} (q : Hop) (hN : us N = q.host) (hn : n = q.port)
    (ho : o.op = .call { callee := .builtin .append, args := #[s, x], argTypes := #[t, t] })
    (ht : P.underlying t = some (.slice 25)) (hi : infoIs P 25 (.agg #[.string ⟨#[]⟩, .int .i64 0, .slice none 0 0]) 3 48)
    (hx : a.eval x = .slice (some ⟨w.heap.size, 0, none⟩) 1 1) (hs : a.eval s = v) (hown : Hops w base v R) (hu : RPrms w u q.ps) (hub : q.ps ≠ [] → ∀ a n c, u = .slice (some a) n c → v.ownBlock ≠ some a.block) (hB : Below base wE w) (hbase : base ≤ wE.heap.size)
    (hbd : (R.length + 1) * 48 ≤ 140737488355328)
    (hk : ∀ v' w', Hops w' base v' (R ++ [(q, u)]) → Below base wE w' → Kept 25 w w' → K (a.put o.dst v') w') :
    o.wp P a (w.alloc (.cells #[.string N, .int .i64 n, u] 25)) K Q := by
  subst hn
  obtain ⟨i, hi0, hi1, hi2, hi3⟩ := info_parts hi
  have hsz2 := hB.size
  obtain ⟨ao, ca, hu1, _⟩ := hu.form
  have hone : ∀ x ∈ (#[Value.string N, Value.int .i64 q.port, u] : Array Value).toList, x.oneCell' = true := by
    subst hu1; simp; exact ⟨rfl, rfl, rfl⟩
  obtain ⟨v', w', hr, h2, h3, h4⟩ := run_app_blk (P := P) (w.alloc (.cells #[.string N, .int .i64 q.port, u] 25)) base t o.type 25 i _ 3 48 ht hi0 hi1 hi2 hi3 rfl (by decide) v R.length (R.flatMap rowV) (hown.1.alloc _)
    ⟨w.heap.size, 0, none⟩ 1 1 (#[Value.string N, Value.int .i64 q.port, u] : Array Value).toList rfl (by
      intro j x hj
      have hadd : (⟨w.heap.size, 0, none⟩ : Addr).add j = ⟨w.heap.size, j, none⟩ := by unfold Addr.add; split <;> simp_all
      rw [hadd, World.cell?_alloc_at _ _ _ _ rfl]
      simpa using hj) hone (by decide) (by simp only [maxLen]; omega) hbd (by simp; omega)
  have hB' : Below base wE (w.alloc (.cells #[.string N, .int .i64 q.port, u] 25)) := hB.alloc (by omega) _
  have hpr : ∀ (y : Value) (L : List Prm), RPrms w y L → (L ≠ [] → ∀ a n c, y = .slice (some a) n c → v.ownBlock ≠ some a.block) → RPrms w' y L := by
    intro y L hy hne
    have hs' := h3.size
    rw [World.size_alloc] at hs'
    refine hy.heap (by omega) fun hL a n c e hlt => ?_
    rw [h3.block a.block (by rw [World.size_alloc]; omega) (fun e2 => hne hL a n c e e2.symm), Below.heap_alloc _ _ _ hlt]
  have hbl : ∀ (y : Value) (L : List Prm), RPrms w y L → (L ≠ [] → ∀ a n c, y = .slice (some a) n c → v.ownBlock ≠ some a.block) → (L ≠ [] → ∀ a n c, y = .slice (some a) n c → v'.ownBlock ≠ some a.block) := by
    intro y L hy hne hL a n c e e2
    rcases h4 with h4 | h4
    · exact hne hL a n c e (h4 ▸ e2)
    · rw [h4, World.size_alloc] at e2
      injection e2 with e2
      rcases hy with ⟨_, hy⟩ | ⟨b, off, cap, hy1, _, _, hy3, _⟩
      · exact hL hy
      · rw [hy1] at e
        injection e with e _ _
        injection e with e
        rw [← e] at e2
        simp at e2; omega
  unfold Oper.wp execOp
  simp only [ho, resolve, invoke, builtin, Sem.run_bind, Sem.run_pure, Result.andThen_ok, List.map_toArray, List.map_cons, List.map_nil, hs, hx, hr]
  refine hk v' w' ⟨?_, ?_⟩ (hB'.grown h3 (by simp; omega) ?_) ?_
  · have e : R.flatMap rowV ++ (#[Value.string N, Value.int .i64 q.port, u] : Array Value).toList = (R ++ [(q, u)]).flatMap rowV := by
      rw [List.flatMap_append]; simp [rowV, sv, ← hN]
    rw [← e, List.length_append]; exact h2
  · intro r hr'
    rcases List.mem_append.1 hr' with hr' | hr'
    · exact ⟨hpr _ _ (hown.2 r hr').1 (hown.2 r hr').2, hbl _ _ (hown.2 r hr').1 (hown.2 r hr').2⟩
    · rw [List.mem_singleton.1 hr']
      exact ⟨hpr _ _ hu hub, hbl _ _ hu hub⟩
  · intro k hk; exact (hown.1.lt k hk).1
  · intro g cs t' fr hgg hne
    have hlt := (Array.getElem?_eq_some_iff.1 hgg).1
    rw [h3.block g (by rw [World.size_alloc]; omega) ?_, Below.heap_alloc _ _ _ hlt, hgg]
    rcases hown.1.2 with ⟨rfl, _⟩ | ⟨g', cap, cur, rfl, _, hh, _⟩
    · simp [Value.ownBlock]
    · intro he
      have : g = g' := by simpa [Value.ownBlock] using he
      subst this
      rw [hh] at hgg
      injection hgg with hgg
      injection hgg with _ htt
      exact hne htt.symm
theorem wpList_appVK {wE w : World} {base : Nat} {t : TypeId} {v u : Value} {R : List (Hop × Value)} {s x : Operand} {N : ByteArray} {n : Int} (q : Hop) (hN : us N = q.host) (hn : n = q.port)
    (hgd : o.guard = none) (ho : o.op = .call { callee := .builtin .append, args := #[s, x], argTypes := #[t, t] })
    (ht : P.underlying t = some (.slice 25)) (hi : infoIs P 25 (.agg #[.string ⟨#[]⟩, .int .i64 0, .slice none 0 0]) 3 48)
    (hx : a.eval x = .slice (some ⟨w.heap.size, 0, none⟩) 1 1) (hs : a.eval s = v) (hown : Hops w base v R) (hu : RPrms w u q.ps) (hub : q.ps ≠ [] → ∀ a n c, u = .slice (some a) n c → v.ownBlock ≠ some a.block) (hB : Below base wE w) (hbase : base ≤ wE.heap.size)
    (hbd : (R.length + 1) * 48 ≤ 140737488355328)
    (hk : ∀ v' w', Hops w' base v' (R ++ [(q, u)]) → Below base wE w' → Kept 25 w w' → wpList P ops Q rest (a.put o.dst v') w') :
    wpList P ops Q (o :: rest) a (w.alloc (.cells #[.string N, .int .i64 n, u] 25)) :=
  wpList_plain hgd fun _ hK => op_appVK q hN hn ho ht hi hx hs hown hu hub hB hbase hbd fun v' w' h1 h2 h3 => hK _ _ (hk v' w' h1 h2 h3)
end

set_option maxHeartbeats 6400000 in
theorem partsF_c (s : ByteArray) (hs : s.size ≤ 4398046511104) (sep : UInt8) (w : World) :
    Calls Tryd.prog 28 #[.string s, .int .u8 sep.toNat] w fun e w' => ∃ v, e = .returned v ∧ Strs w' w.heap.size 9 v (parts (us s) sep) ∧ Below w.heap.size w w' := by
  go_enter Tryd.func28, Tryd.ntmps28
  go_wp2
  go_loopw [5, 6, 7, 8, 9] (fun v f qq aa i wr => ∃ (k fr : Nat) (q a : Bool) (L : List (List UInt8)), fr ≤ k ∧ fr ≤ s.size ∧ k ≤ s.size + 1 ∧ i = .int .i64 k ∧ f = .int .i64 fr ∧ qq = .bool q ∧ aa = .bool a ∧ L.length ≤ k ∧ Strs wr w.heap.size 9 v L ∧ parts (us s) sep = L ++ partsGo sep q a (piece s fr k) ((us s).drop k) ∧ Below w.heap.size w wr) (fun _ _ _ _ i _ => s.size + 1 - (intOf i).toNat)
  case atStart => exact ⟨0, 0, false, false, [], Nat.le_refl _, Nat.zero_le _, by omega, rfl, rfl, rfl, rfl, Nat.le_refl _, Strs.nil _ _ _, rfl, Below.refl _ _⟩
  case round =>
    obtain ⟨k, fr, q, a, L, hf1, hf2, hk, rfl, rfl, rfl, rfl, hl, hown, hp, hB⟩ := hrel
    have HP := Lib.hid hp; clear hp
    by_cases hlt : k < s.size
    · have hd := Lib.hid (drop_us s k hlt)
      have ps := Lib.hid (piece_snoc s fr k hf1 hlt)
      have p0 := Lib.hid (piece_self s (k + 1))
      by_cases hA : q = true ∧ s[k].toNat = 92
      · obtain ⟨rfl, h92⟩ := hA
        have HN := Lib.hid (show parts (us s) sep = L ++ partsGo sep true a (piece s fr (k + 2)) ((us s).drop (k + 2)) by rw [HP.out, pg_esc sep a _ s k hlt h92, piece_two s fr k hf1])
        have t92 : ((s[k].toNat : Int) == 92) = true := by simp; omega
        clear h92
        go_wp2
        go_roundw
        case rel => exact ⟨k + 2, fr, true, a, L, by omega, hf2, by omega, by go_num, rfl, rfl, rfl, by omega, hown, HN.out, hB⟩
        case measure => simp [intOf]; omega
      have hpg := Lib.hid (pg_cons sep q a (piece s fr k) s[k] ((us s).drop (k + 1)) hA)
      by_cases h34 : s[k].toNat = 34
      · have HN := Lib.hid (show parts (us s) sep = L ++ partsGo sep (!q) a (piece s fr (k + 1)) ((us s).drop (k + 1)) by rw [HP.out, hd.out, hpg.out, if_pos h34, ps.out])
        have t92 : ((s[k].toNat : Int) == 92) = false := by simp; omega
        have t34 : ((s[k].toNat : Int) == 34) = true := by simp; omega
        clear h34 hA
        cases q
        all_goals
          go_wp2
          go_roundw
          case rel => exact ⟨k + 1, fr, _, a, L, by omega, hf2, by omega, by go_num, rfl, rfl, rfl, by omega, hown, HN.out, hB⟩
          case measure => simp [intOf]; omega
      have t34 : ((s[k].toNat : Int) == 34) = false := by simp; omega
      have N34 := Lib.hid h34
      clear h34
      cases q with
      | true =>
        have t92 : ((s[k].toNat : Int) == 92) = false := by simp; simp at hA; omega
        clear hA
        have HN := Lib.hid (show parts (us s) sep = L ++ partsGo sep true a (piece s fr (k + 1)) ((us s).drop (k + 1)) by rw [HP.out, hd.out, hpg.out, if_neg N34.out, if_pos rfl, ps.out])
        go_wp2
        go_roundw
        case rel => exact ⟨k + 1, fr, true, a, L, by omega, hf2, by omega, by go_num, rfl, rfl, rfl, by omega, hown, HN.out, hB⟩
        case measure => simp [intOf]; omega
      | false =>
        clear hA
        by_cases h60 : s[k].toNat = 60
        · have HN := Lib.hid (show parts (us s) sep = L ++ partsGo sep false true (piece s fr (k + 1)) ((us s).drop (k + 1)) by rw [HP.out, hd.out, hpg.out, if_neg N34.out, if_neg (by decide), if_pos h60, ps.out])
          have t60 : ((s[k].toNat : Int) == 60) = true := by simp; omega
          clear h60
          go_wp2
          go_roundw
          case rel => exact ⟨k + 1, fr, false, true, L, by omega, hf2, by omega, by go_num, rfl, rfl, rfl, by omega, hown, HN.out, hB⟩
          case measure => simp [intOf]; omega
        have t60 : ((s[k].toNat : Int) == 60) = false := by simp; omega
        have N60 := Lib.hid h60
        clear h60
        by_cases h62 : s[k].toNat = 62
        · have HN := Lib.hid (show parts (us s) sep = L ++ partsGo sep false false (piece s fr (k + 1)) ((us s).drop (k + 1)) by rw [HP.out, hd.out, hpg.out, if_neg N34.out, if_neg (by decide), if_neg N60.out, if_pos h62, ps.out])
          have t62 : ((s[k].toNat : Int) == 62) = true := by simp; omega
          clear h62
          go_wp2
          go_roundw
          case rel => exact ⟨k + 1, fr, false, false, L, by omega, hf2, by omega, by go_num, rfl, rfl, rfl, by omega, hown, HN.out, hB⟩
          case measure => simp [intOf]; omega
        have t62 : ((s[k].toNat : Int) == 62) = false := by simp; omega
        have N62 := Lib.hid h62
        clear h62
        by_cases hsp : s[k].toNat = sep.toNat ∧ a = false
        · obtain ⟨hs1, rfl⟩ := hsp
          have HN := Lib.hid (show parts (us s) sep = (L ++ [piece s fr k]) ++ partsGo sep false false (piece s (k + 1) (k + 1)) ((us s).drop (k + 1)) by rw [HP.out, hd.out, hpg.out, if_neg N34.out, if_neg (by decide), if_neg N60.out, if_neg N62.out, if_pos ⟨hs1, rfl⟩, p0.out]; simp)
          have tsp : ((s[k].toNat : Int) == (sep.toNat : Int)) = true := by simp; omega
          clear hs1
          go_wp2_with (at_builtin; refine wpList_appS1 (piece s fr k) (us_extract s fr k) rfl rfl Tryd.underlying56 infoS rfl rfl hown hB (Nat.le_refl _) ?_ ?_; (focus omega); intro v1 w1 ho1 hb1)
          go_roundw
          case rel => exact ⟨k + 1, k + 1, false, false, _, Nat.le_refl _, by omega, by omega, by go_num, by go_num, rfl, rfl, by simp; omega, ho1, HN.out, hb1⟩
          case measure => simp [intOf]; omega
        have HN := Lib.hid (show parts (us s) sep = L ++ partsGo sep false a (piece s fr (k + 1)) ((us s).drop (k + 1)) by rw [HP.out, hd.out, hpg.out, if_neg N34.out, if_neg (by decide), if_neg N60.out, if_neg N62.out, if_neg hsp, ps.out])
        have hsp' : (((s[k].toNat : Int) == (sep.toNat : Int)) = true ∧ a = true) ∨ ((s[k].toNat : Int) == (sep.toNat : Int)) = false := by
          cases a
          · right; simp; simp at hsp; omega
          · by_cases h : s[k].toNat = sep.toNat
            · left; exact ⟨by simp; omega, rfl⟩
            · right; simp; omega
        clear hsp
        rcases hsp' with ⟨tsp, rfl⟩ | tsp
        all_goals
          go_wp2
          go_roundw
          case rel => exact ⟨k + 1, fr, false, _, L, by omega, hf2, by omega, by go_num, rfl, rfl, rfl, by omega, hown, HN.out, hB⟩
          case measure => simp [intOf]; omega
    · have HN := Lib.hid (show parts (us s) sep = L ++ [(us s).drop fr] by rw [HP.out, drop_us_end s k (by omega), piece_end s fr k (by omega)]; simp [partsGo])
      go_wp2_with (at_builtin; refine wpList_appS1 ((us s).drop fr) (us_tail s fr) rfl rfl Tryd.underlying56 infoS rfl rfl hown hB (Nat.le_refl _) ?_ ?_; (focus omega); intro v1 w1 ho1 hb1)
      go_ret
      exact ⟨_, rfl, (ho1.cast HN.out.symm), hb1⟩

set_option maxRecDepth 100000 in
set_option maxHeartbeats 6400000 in
theorem partsRF_c (s : ByteArray) (hs : s.size ≤ 4294967280) (sep : UInt8) (w : World) :
    Calls Tryd.prog 34 #[.string s, .int .u8 sep.toNat] w fun e w' => ∃ v, e = .returned v ∧ Strs w' w.heap.size 9 v (parts (us s) sep) ∧ Below w.heap.size w w' := by
  go_enter Tryd.func34, Tryd.ntmps34
  go_wp2
  go_loopw [5, 6, 7, 8, 9] (fun v vb qq aa i wr => ∃ (k : Nat) (q a : Bool) (cur : List UInt8) (L : List (List UInt8)), k ≤ s.size ∧ i = .int .i64 k ∧ qq = .bool q ∧ aa = .bool a ∧ L.length ≤ k ∧ cur.length ≤ k ∧ Strs wr w.heap.size 9 v L ∧ Byt wr w.heap.size 5 vb cur ∧ parts (us s) sep = L ++ partsGo sep q a cur ((us s).drop k) ∧ Below w.heap.size w wr) (fun _ _ _ _ i _ => s.size - (intOf i).toNat)
  case atStart => exact ⟨0, false, false, [], [], Nat.zero_le _, rfl, rfl, rfl, Nat.le_refl _, Nat.le_refl _, Strs.nil _ _ _, Byt.nil _ _ _, rfl, Below.refl _ _⟩
  case round =>
    obtain ⟨k, q, a, cur, L, hk, rfl, rfl, rfl, hl, hcl, hown, hownB, hp, hB⟩ := hrel
    have HP := Lib.hid hp; clear hp
    by_cases hlt : k < s.size
    · have hd := Lib.hid (drop_us s k hlt)
      by_cases hA : q = true ∧ s[k].toNat = 92
      · obtain ⟨rfl, h92⟩ := hA
        have t92 : ((s[k].toNat : Int) == 92) = true := by simp; omega
        by_cases hk1 : k + 1 < s.size
        · have HN := Lib.hid (show parts (us s) sep = L ++ partsGo sep true a ((cur ++ [s[k]]) ++ [s[k + 1]]) ((us s).drop (k + 2)) by rw [HP.out, pg_esc2 sep a _ s k hk1 h92])
          clear h92
          go_wp2_with (first | (at_builtin; refine wpList_appK_B s[k] rfl rfl rfl Tryd.underlying78 infoB rfl rfl hownB hB (Nat.le_refl _) ?_ ?_; (focus omega); intro v1 w1 ho1 hb1 hk1') | (at_builtin; refine wpList_appK_B s[k + 1] rfl rfl rfl Tryd.underlying78 infoB rfl rfl ho1 hb1 (Nat.le_refl _) ?_ ?_; (focus (rw [List.length_append]; simp; omega)); intro v2 w2 ho2 hb2 hk2'))
          go_roundw
          case rel => exact ⟨k + 2, true, a, _, L, by omega, by go_num, rfl, rfl, by omega, by simp; omega, (hown.kept hk1' (by decide)).kept hk2' (by decide), ho2, HN.out, hb2⟩
          case measure => simp [intOf]; omega
        · have HN := Lib.hid (show parts (us s) sep = L ++ partsGo sep true a (cur ++ [s[k]]) ((us s).drop (k + 1)) by rw [HP.out, pg_esc1 sep a _ s k hlt hk1 h92])
          clear h92
          go_wp2_with (at_builtin; refine wpList_appK_B s[k] rfl rfl rfl Tryd.underlying78 infoB rfl rfl hownB hB (Nat.le_refl _) ?_ ?_; (focus omega); intro v1 w1 ho1 hb1 hk1')
          go_roundw
          case rel => exact ⟨k + 1, true, a, _, L, by omega, by go_num, rfl, rfl, by omega, by simp; omega, hown.kept hk1' (by decide), ho1, HN.out, hb1⟩
          case measure => simp [intOf]; omega
      have hpg := Lib.hid (pg_cons sep q a cur s[k] ((us s).drop (k + 1)) hA)
      by_cases h34 : s[k].toNat = 34
      · have HN := Lib.hid (show parts (us s) sep = L ++ partsGo sep (!q) a (cur ++ [s[k]]) ((us s).drop (k + 1)) by rw [HP.out, hd.out, hpg.out, if_pos h34])
        have t92 : ((s[k].toNat : Int) == 92) = false := by simp; omega
        have t34 : ((s[k].toNat : Int) == 34) = true := by simp; omega
        have u34 : ((s[k].toNat : Int) != 34) = false := by simp; omega
        have t60 : ((s[k].toNat : Int) == 60) = false := by simp; omega
        have t62 : ((s[k].toNat : Int) == 62) = false := by simp; omega
        clear h34 hA
        cases q <;> cases a <;> cases tsep : ((s[k].toNat : Int) == (sep.toNat : Int))
        all_goals
          go_wp2_with (at_builtin; refine wpList_appK_B s[k] rfl rfl rfl Tryd.underlying78 infoB rfl rfl hownB hB (Nat.le_refl _) ?_ ?_; (focus omega); intro v1 w1 ho1 hb1 hk1')
          go_roundw
          case rel => exact ⟨k + 1, _, _, _, L, by omega, by go_num, rfl, rfl, by omega, by simp; omega, hown.kept hk1' (by decide), ho1, HN.out, hb1⟩
          case measure => simp [intOf]; omega
      have t34 : ((s[k].toNat : Int) == 34) = false := by simp; omega
      have u34 : ((s[k].toNat : Int) != 34) = true := by simp; omega
      have N34 := Lib.hid h34
      clear h34
      cases q with
      | true =>
        have t92 : ((s[k].toNat : Int) == 92) = false := by simp; simp at hA; omega
        clear hA
        have HN := Lib.hid (show parts (us s) sep = L ++ partsGo sep true a (cur ++ [s[k]]) ((us s).drop (k + 1)) by rw [HP.out, hd.out, hpg.out, if_neg N34.out, if_pos rfl])
        go_wp2_with (at_builtin; refine wpList_appK_B s[k] rfl rfl rfl Tryd.underlying78 infoB rfl rfl hownB hB (Nat.le_refl _) ?_ ?_; (focus omega); intro v1 w1 ho1 hb1 hk1')
        go_roundw
        case rel => exact ⟨k + 1, _, _, _, L, by omega, by go_num, rfl, rfl, by omega, by simp; omega, hown.kept hk1' (by decide), ho1, HN.out, hb1⟩
        case measure => simp [intOf]; omega
      | false =>
        clear hA
        by_cases h60 : s[k].toNat = 60
        · have HN := Lib.hid (show parts (us s) sep = L ++ partsGo sep false true (cur ++ [s[k]]) ((us s).drop (k + 1)) by rw [HP.out, hd.out, hpg.out, if_neg N34.out, if_neg (by decide), if_pos h60])
          have t60 : ((s[k].toNat : Int) == 60) = true := by simp; omega
          have u60 : ((s[k].toNat : Int) != 60) = false := by simp; omega
          have t62 : ((s[k].toNat : Int) == 62) = false := by simp; omega
          clear h60
          cases a <;> cases tsep : ((s[k].toNat : Int) == (sep.toNat : Int))
          all_goals
            go_wp2_with (at_builtin; refine wpList_appK_B s[k] rfl rfl rfl Tryd.underlying78 infoB rfl rfl hownB hB (Nat.le_refl _) ?_ ?_; (focus omega); intro v1 w1 ho1 hb1 hk1')
            go_roundw
            case rel => exact ⟨k + 1, _, _, _, L, by omega, by go_num, rfl, rfl, by omega, by simp; omega, hown.kept hk1' (by decide), ho1, HN.out, hb1⟩
            case measure => simp [intOf]; omega
        have t60 : ((s[k].toNat : Int) == 60) = false := by simp; omega
        have u60 : ((s[k].toNat : Int) != 60) = true := by simp; omega
        have N60 := Lib.hid h60
        clear h60
        by_cases h62 : s[k].toNat = 62
        · have HN := Lib.hid (show parts (us s) sep = L ++ partsGo sep false false (cur ++ [s[k]]) ((us s).drop (k + 1)) by rw [HP.out, hd.out, hpg.out, if_neg N34.out, if_neg (by decide), if_neg N60.out, if_pos h62])
          have t62 : ((s[k].toNat : Int) == 62) = true := by simp; omega
          have u62 : ((s[k].toNat : Int) != 62) = false := by simp; omega
          clear h62
          cases a <;> cases tsep : ((s[k].toNat : Int) == (sep.toNat : Int))
          all_goals
            go_wp2_with (at_builtin; refine wpList_appK_B s[k] rfl rfl rfl Tryd.underlying78 infoB rfl rfl hownB hB (Nat.le_refl _) ?_ ?_; (focus omega); intro v1 w1 ho1 hb1 hk1')
            go_roundw
            case rel => exact ⟨k + 1, _, _, _, L, by omega, by go_num, rfl, rfl, by omega, by simp; omega, hown.kept hk1' (by decide), ho1, HN.out, hb1⟩
            case measure => simp [intOf]; omega
        have t62 : ((s[k].toNat : Int) == 62) = false := by simp; omega
        have u62 : ((s[k].toNat : Int) != 62) = true := by simp; omega
        have N62 := Lib.hid h62
        clear h62
        by_cases hsp : s[k].toNat = sep.toNat ∧ a = false
        · obtain ⟨hs1, rfl⟩ := hsp
          have HN := Lib.hid (show parts (us s) sep = (L ++ [cur]) ++ partsGo sep false false [] ((us s).drop (k + 1)) by rw [HP.out, hd.out, hpg.out, if_neg N34.out, if_neg (by decide), if_neg N60.out, if_neg N62.out, if_pos ⟨hs1, rfl⟩]; simp)
          have tsp : ((s[k].toNat : Int) == (sep.toNat : Int)) = true := by simp; omega
          clear hs1
          go_wp2_with (first | (refine wpList_str rfl rfl Tryd.underlying78 Tryd.underlying5 Tryd.underlying9 rfl hownB ?_) | (at_builtin; refine wpList_appK_S cur (us_bs _) rfl rfl Tryd.underlying56 infoS rfl rfl hown hB (Nat.le_refl _) ?_ ?_; (focus omega); intro v1 w1 ho1 hb1 hk1'))
          go_roundw
          case rel => exact ⟨k + 1, false, false, [], _, by omega, by go_num, rfl, rfl, by simp; omega, by simp, ho1, Byt.nil _ _ _, HN.out, hb1⟩
          case measure => simp [intOf]; omega
        have HN := Lib.hid (show parts (us s) sep = L ++ partsGo sep false a (cur ++ [s[k]]) ((us s).drop (k + 1)) by rw [HP.out, hd.out, hpg.out, if_neg N34.out, if_neg (by decide), if_neg N60.out, if_neg N62.out, if_neg hsp])
        have hsp' : (((s[k].toNat : Int) == (sep.toNat : Int)) = true ∧ a = true) ∨ ((s[k].toNat : Int) == (sep.toNat : Int)) = false := by
          cases a
          · right; simp; simp at hsp; omega
          · by_cases h : s[k].toNat = sep.toNat
            · left; exact ⟨by simp; omega, rfl⟩
            · right; simp; omega
        clear hsp
        rcases hsp' with ⟨tsp, rfl⟩ | tsp
        · skip
          go_wp2_with (at_builtin; refine wpList_appK_B s[k] rfl rfl rfl Tryd.underlying78 infoB rfl rfl hownB hB (Nat.le_refl _) ?_ ?_; (focus omega); intro v1 w1 ho1 hb1 hk1')
          go_roundw
          case rel => exact ⟨k + 1, _, _, _, L, by omega, by go_num, rfl, rfl, by omega, by simp; omega, hown.kept hk1' (by decide), ho1, HN.out, hb1⟩
          case measure => simp [intOf]; omega
        · cases a
          all_goals
            go_wp2_with (at_builtin; refine wpList_appK_B s[k] rfl rfl rfl Tryd.underlying78 infoB rfl rfl hownB hB (Nat.le_refl _) ?_ ?_; (focus omega); intro v1 w1 ho1 hb1 hk1')
            go_roundw
            case rel => exact ⟨k + 1, _, _, _, L, by omega, by go_num, rfl, rfl, by omega, by simp; omega, hown.kept hk1' (by decide), ho1, HN.out, hb1⟩
            case measure => simp [intOf]; omega
    · have HN := Lib.hid (show parts (us s) sep = L ++ [cur] by rw [HP.out, drop_us_end s k (by omega)]; simp [partsGo])
      go_wp2_with (first | (refine wpList_str rfl rfl Tryd.underlying78 Tryd.underlying5 Tryd.underlying9 rfl hownB ?_) | (at_builtin; refine wpList_appK_S cur (us_bs _) rfl rfl Tryd.underlying56 infoS rfl rfl hown hB (Nat.le_refl _) ?_ ?_; (focus omega); intro v1 w1 ho1 hb1 hk1'))
      go_ret
      exact ⟨_, rfl, (ho1.cast HN.out.symm), hb1⟩

end Go.Proofs.YtjohecbmeoalaaaDoor
