/-
  Lists of hops, with commas between or in a header each: plain laws.
-/
import Derived.Test.YtjohecbmeoalaaaDoorVia
namespace Go.Proofs.YtjohecbmeoalaaaDoor

theorem textV_quiet (v : Hop) (h : checkV v = 0) (cur x : List UInt8) : partsGo 44 false false cur (textV v ++ x) = partsGo 44 false false (cur ++ textV v) x := by
  obtain ⟨hh, _, _, ht⟩ := check_parts v h
  obtain ⟨_, htx⟩ := textS_ok v.ps ht
  have hw := wall_append _ _ (host_wch _ hh) (portT_wch v.port)
  have e : textV v = (nProto ++ 32 :: (v.host ++ portT v.port)) ++ (textS v.ps).1 := by unfold textV; simp
  rw [e, List.append_assoc, parts_wch 44 (nProto ++ 32 :: (v.host ++ portT v.port)) cur _ (fun c hc => by
    rcases List.mem_append.1 hc with hc | hc
    · exact wall_no 44 (.inr rfl) _ proto_wch c hc
    · rcases List.mem_cons.1 hc with rfl | hc
      · decide
      · exact wall_no 44 (.inr rfl) _ hw c hc), comma_text _ _ _ _ x htx, List.append_assoc]
theorem textV_ends (v : Hop) (h : checkV v = 0) (a b : List UInt8) (ha : a.all blank = true) (hb : b.all blank = true) : trim (a ++ textV v ++ b) = textV v := by
  obtain ⟨hh, _, _, ht⟩ := check_parts v h
  have hne : textV v ≠ [] := by unfold textV; simp [nProto]
  have h1 := textV_trim v hh ht
  have e : ∀ l : List UInt8, l ≠ [] → trim l = l → (∀ c, l.head? = some c → blank c = false) ∧ (∀ c, l.getLast? = some c → blank c = false) := by
    intro l hl e
    have hdw : ∀ (p : UInt8 → Bool) (m : List UInt8) (c : UInt8), (m.dropWhile p).head? = some c → p c = false := by
      intro p m
      induction m with
      | nil => intro c hc; cases hc
      | cons x r ih =>
        intro c hc
        rw [List.dropWhile_cons] at hc
        split at hc
        · exact ih c hc
        · rename_i hx
          injection hc with hc
          rw [← hc]; simpa using hx
    have hlast : ∀ c, l.getLast? = some c → blank c = false := by
      intro c hc
      rw [← e] at hc
      unfold trim trimR at hc
      rw [List.getLast?_reverse] at hc
      exact hdw _ _ c hc
    refine ⟨fun c hc => ?_, hlast⟩
    have hlen : (trimL l).length = l.length := by
      have h2 : (trim l).length ≤ (trimL l).length := by
        unfold trim trimR
        rw [List.length_reverse]
        exact Nat.le_trans ((List.dropWhile_sublist _).length_le) (by rw [List.length_reverse]; exact Nat.le_refl _)
      have h3 : (trimL l).length ≤ l.length := (List.dropWhile_sublist _).length_le
      rw [e] at h2; omega
    cases hb : blank c
    · rfl
    · exfalso
      cases l with
      | nil => cases hc
      | cons x r =>
        injection hc with hc
        subst hc
        unfold trimL at hlen
        rw [List.dropWhile_cons, hb, if_pos rfl] at hlen
        have := (List.dropWhile_sublist (l := r) blank).length_le
        rw [List.length_cons] at hlen; omega
  obtain ⟨e1, e2⟩ := e _ hne h1
  exact trim_mid a (textV v) b ha hb e1 e2 hne
theorem glue_comma (sep : List UInt8) (hs : sep = [44] ∨ sep = [32, 44, 32]) : ∀ (vs : List Hop) (cur : List UInt8), vs ≠ [] → cur.all blank = true → (∀ v ∈ vs, checkV v = 0) →
    (partsGo 44 false false cur (glue sep (vs.map textV))).map trim = vs.map textV
  | [], _, h, _, _ => absurd rfl h
  | [v], cur, _, hc, hv => by
    have h0 := hv v (List.mem_cons_self ..)
    have h1 := textV_quiet v h0 cur []
    rw [List.append_nil] at h1
    show (partsGo 44 false false cur (textV v)).map trim = [textV v]
    rw [h1]
    show [trim (cur ++ textV v)] = _
    have := textV_ends v h0 cur [] hc rfl
    rw [List.append_nil] at this
    rw [this]
  | v :: u :: r, cur, _, hc, hv => by
    have h0 := hv v (List.mem_cons_self ..)
    show (partsGo 44 false false cur (textV v ++ (sep ++ glue sep ((u :: r).map textV)))).map trim = textV v :: (u :: r).map textV
    rw [textV_quiet v h0 cur _]
    have ih := fun cur' hc' => glue_comma sep hs (u :: r) cur' (by simp) hc' (fun w hw => hv w (List.mem_cons_of_mem _ hw))
    obtain ⟨G, hG⟩ : ∃ G, G = glue sep ((u :: r).map textV) := ⟨_, rfl⟩
    rw [← hG] at ih ⊢
    rcases hs with rfl | rfl
    · show (partsGo 44 false false (cur ++ textV v) (44 :: G)).map trim = _
      rw [pgo_cons 44 false false _ 44 _ (by rintro ⟨h, _⟩; cases h), if_neg (by decide), if_neg (by decide), if_neg (by decide), if_neg (by decide), if_pos ⟨rfl, rfl⟩, List.map_cons, ih [] rfl]
      have := textV_ends v h0 cur [] hc rfl
      rw [List.append_nil] at this
      rw [this]
    · show (partsGo 44 false false (cur ++ textV v) ([32] ++ (44 :: ([32] ++ G)))).map trim = _
      rw [parts_wch 44 [32] _ _ (by intro c hc; rw [List.mem_singleton.1 hc]; decide), pgo_cons 44 false false _ 44 _ (by rintro ⟨h, _⟩; cases h), if_neg (by decide), if_neg (by decide), if_neg (by decide), if_neg (by decide), if_pos ⟨rfl, rfl⟩, List.map_cons, parts_wch 44 [32] _ _ (by intro c hc; rw [List.mem_singleton.1 hc]; decide), ih _ (by decide +kernel)]
      rw [textV_ends v h0 cur [32] hc (by decide +kernel)]
theorem hops_congr : ∀ (xs ys : List (List UInt8)) (L : List Hop), xs.map trim = ys.map trim → hopsGo L xs = hopsGo L ys
  | [], [], _, _ => rfl
  | [], y :: ys, _, h => by cases h
  | x :: xs, [], _, h => by cases h
  | x :: xs, y :: ys, L, h => by
    injection h with h1 h2
    have e : parseV x = parseV y := by unfold parseV; rw [h1]
    rw [hopsGo, hopsGo, e]
    split
    · rfl
    · split
      · rfl
      · exact hops_congr xs ys _ h2
theorem hops_texts : ∀ (vs L : List Hop), (∀ v ∈ vs, checkV v = 0) → L.length + vs.length ≤ 16 → hopsGo L (vs.map textV) = (L ++ vs, 0)
  | [], L, _, _ => by rw [List.map_nil, hopsGo, List.append_nil]
  | v :: r, L, hv, hl => by
    rw [List.length_cons] at hl
    rw [List.map_cons, hopsGo, parse_back v (hv v (List.mem_cons_self ..)), if_neg (fun h => h rfl), if_neg (by omega)]
    rw [hops_texts r (L ++ [v]) (fun w hw => hv w (List.mem_cons_of_mem _ hw)) (by rw [List.length_append, List.length_singleton]; omega)]
    simp
theorem map_trim (vs : List Hop) (hv : ∀ v ∈ vs, checkV v = 0) : (vs.map textV).map trim = vs.map textV := by
  rw [List.map_map]
  refine List.map_congr_left fun v h => ?_
  obtain ⟨hh, _, _, ht⟩ := check_parts v (hv v h)
  exact textV_trim v hh ht
theorem list_of (vs : List Hop) (vals : List (List UInt8)) (hv : ∀ v ∈ vs, checkV v = 0) (h1 : 0 < vs.length) (h16 : vs.length ≤ 16) (h : (vals.flatMap fun v => parts v 44).map trim = vs.map textV) : listV vals = (vs, 0) := by
  have e : hopsGo [] (vals.flatMap fun v => parts v 44) = (vs, 0) := by
    rw [hops_congr _ (vs.map textV) [] (by rw [h, map_trim vs hv]), hops_texts vs [] hv (by simpa using h16), List.nil_append]
  unfold listV
  rw [e, if_neg (fun h => h rfl), if_neg (by intro h; dsimp only at h; rw [h] at h1; exact absurd h1 (by decide))]
/-- A HEADER EACH -/
theorem list_each (vs : List Hop) (hv : ∀ v ∈ vs, checkV v = 0) (h1 : 0 < vs.length) (h16 : vs.length ≤ 16) : listV (vs.map textV) = (vs, 0) := by
  refine list_of vs _ hv h1 h16 ?_
  have : ∀ us : List Hop, (∀ v ∈ us, checkV v = 0) → ((us.map textV).flatMap fun v => parts v 44).map trim = us.map textV := by
    intro us
    induction us with
    | nil => intro _; rfl
    | cons v r ih =>
      intro hv
      have hg := glue_comma [44] (.inl rfl) [v] [] (by simp) rfl (fun w hw => by rw [List.mem_singleton.1 hw]; exact hv v (List.mem_cons_self ..))
      rw [List.map_cons, List.flatMap_cons, List.map_append, ih (fun w hw => hv w (List.mem_cons_of_mem _ hw))]
      exact congrArg (· ++ r.map textV) hg
  exact this vs hv
/-- TWO HEADERS, WITH COMMAS BETWEEN -/
theorem list_two (vs : List Hop) (k : Nat) (hv : ∀ v ∈ vs, checkV v = 0) (h1 : 0 < vs.length) (h16 : vs.length ≤ 16) :
    listV ((if 0 < k then [glue [44] ((vs.map textV).take k)] else []) ++ (if k < vs.length then [glue [32, 44, 32] ((vs.map textV).drop k)] else [])) = (vs, 0) := by
  refine list_of vs _ hv h1 h16 ?_
  rw [List.flatMap_append, List.map_append, ← List.map_take, ← List.map_drop]
  have ha : (((if 0 < k then [glue [44] ((vs.take k).map textV)] else []).flatMap fun v => parts v 44).map trim) = (vs.take k).map textV := by
    split
    · rename_i hk
      have := glue_comma [44] (.inl rfl) (vs.take k) [] (by intro e; have h2 := congrArg List.length e; rw [List.length_take, List.length_nil] at h2; omega) rfl (fun w hw => hv w (List.mem_of_mem_take hw))
      rw [List.flatMap_cons, List.flatMap_nil, List.append_nil]
      exact this
    · rw [show k = 0 from by omega]; rfl
  have hb : (((if k < vs.length then [glue [32, 44, 32] ((vs.drop k).map textV)] else []).flatMap fun v => parts v 44).map trim) = (vs.drop k).map textV := by
    split
    · rename_i hk
      have := glue_comma [32, 44, 32] (.inr rfl) (vs.drop k) [] (by intro e; have h2 := congrArg List.length e; rw [List.length_drop, List.length_nil] at h2; omega) rfl (fun w hw => hv w (List.mem_of_mem_drop hw))
      rw [List.flatMap_cons, List.flatMap_nil, List.append_nil]
      exact this
    · rename_i hk
      rw [List.drop_eq_nil_iff.2 (by omega)]; rfl
  rw [ha, hb, ← List.map_append, List.take_append_drop]

end Go.Proofs.YtjohecbmeoalaaaDoor
