/- Contracts of Go functions, and plain laws. No condition but those told. -/
import Derived.Test.YtipdiddjhimdcaaGreatDoorT01
set_option linter.unusedSimpArgs false
set_option linter.unusedVariables false
set_option maxRecDepth 100000
namespace Go.Proofs.YtipdiddjhimdcaaGreatDoor
open Go.RowKit Go.Sort
def nMaxF : List UInt8 := [77, 97, 120, 45, 70, 111, 114, 119, 97, 114, 100, 115]
def n70 : List UInt8 := [55, 48]
def nRoute : List UInt8 := [82, 111, 117, 116, 101]
def nCSeq : List UInt8 := [67, 83, 101, 113]
def nNotify : List UInt8 := [78, 79, 84, 73, 70, 89]
def nBrch : List UInt8 := [98, 114, 97, 110, 99, 104]
def hopN (host branch : List UInt8) : Hop := ⟨host, 0, [⟨nBrch, branch, true⟩]⟩
def routesN (R : List (List UInt8)) : List Hdr := R.map fun r => ⟨nRoute, r⟩
def hdrs1 (hop : List UInt8) (R : List (List UInt8)) : List Hdr := [⟨nVia, hop⟩, ⟨nMaxF, n70⟩] ++ routesN R
def sipA (host : List UInt8) : List UInt8 := [60, 115, 105, 112, 58] ++ host ++ [62]
def hdrsN (hop fr dst seq : List UInt8) (d : Dlg) (host : List UInt8) : List Hdr :=
 hdrs1 hop d.routes ++ [⟨nFrom, fr⟩] ++ [⟨nTo, dst⟩] ++ [⟨nCallId, d.call⟩] ++ [⟨nCSeq, seq⟩] ++ [⟨nContact, sipA host⟩]
def msgN (tgt hop fr dst : List UInt8) (d : Dlg) (host : List UInt8) (more : List Hdr) (body : List UInt8) : Mg := ⟨nNotify, tgt, 0, [], hdrsN hop fr dst (cseqS (d.lout + 1) nNotify).1 d host ++ more, body⟩
def dNext (d : Dlg) : Dlg := ⟨d.call, d.loc, d.rem, d.tgt, d.routes, d.lin, d.lout + 1⟩
def endN (d : Dlg) (r : List UInt8 × Int) : List UInt8 × Dlg × Int := if r.2 ≠ 0 then ([], d, r.2) else (r.1, dNext d, 0)
def firstI : List Int → Int
 | [] => 0
 | x :: r => if x ≠ 0 then x else firstI r
def notifyS (d : Dlg) (host branch : List UInt8) (more : List Hdr) (body : List UInt8) : List UInt8 × Dlg × Int :=
 if d.lout < 0 ∨ 2147483647 ≤ d.lout then ([], d, 80)
 else if firstI [(printU d.tgt).2, (printV (hopN host branch)).2, (printA d.loc).2, (printA d.rem).2] ≠ 0 then ([], d, firstI [(printU d.tgt).2, (printV (hopN host branch)).2, (printA d.loc).2, (printA d.rem).2])
 else endN d (printM (msgN (printU d.tgt).1 (printV (hopN host branch)).1 (printA d.loc).1 (printA d.rem).1 d host more body))
theorem firstI_at (l : List Int) (k : Nat) (hk : k < l.length) : firstI (l.drop k) = if l[k] ≠ 0 then l[k] else firstI (l.drop (k + 1)) := by
 rw [List.drop_eq_getElem_cons hk]; rfl
theorem notifyS_cases (d : Dlg) (host branch : List UInt8) (more : List Hdr) (body : List UInt8) (U V A B : List UInt8 × Int) (hU : U = printU d.tgt) (hV : V = printV (hopN host branch)) (hA : A = printA d.loc) (hB : B = printA d.rem) :
  (d.lout < 0 ∧ notifyS d host branch more body = ([], d, 80)) ∨ (¬ d.lout < 0 ∧ 2147483647 ≤ d.lout ∧ notifyS d host branch more body = ([], d, 80)) ∨
  (¬ d.lout < 0 ∧ ¬ 2147483647 ≤ d.lout ∧ firstI [U.2, V.2, A.2, B.2] ≠ 0 ∧ notifyS d host branch more body = ([], d, firstI [U.2, V.2, A.2, B.2])) ∨
  (¬ d.lout < 0 ∧ ¬ 2147483647 ≤ d.lout ∧ firstI [U.2, V.2, A.2, B.2] = 0 ∧ notifyS d host branch more body = endN d (printM (msgN U.1 V.1 A.1 B.1 d host more body))) := by
 subst hU hV hA hB
 unfold notifyS
 by_cases h1 : d.lout < 0
 ·exact .inl ⟨h1, if_pos (.inl h1)⟩
 refine .inr ?_
 by_cases h2 : 2147483647 ≤ d.lout
 ·exact .inl ⟨h1, h2, if_pos (.inr h2)⟩
 refine .inr ?_
 rw [if_neg (by rintro (h | h); exact h1 h; exact h2 h)]
 by_cases h3 : firstI [(printU d.tgt).2, (printV (hopN host branch)).2, (printA d.loc).2, (printA d.rem).2] = 0
 ·exact .inr ⟨h1, h2, h3, if_neg (fun h => h h3)⟩
 ·exact .inl ⟨h1, h2, h3, if_pos h3⟩
theorem printU_len (u : Uri) : (printU u).1.length ≤ 18000 := by
 unfold printU
 by_cases h : checkU u = 0
 ·rw [if_pos h]; have := textU_le u h; dsimp only; omega
 ·rw [if_neg h]; simp
theorem printV_len (v : Hop) : (printV v).1.length ≤ 18000 := by
 unfold printV
 by_cases h : checkV v = 0
 ·rw [if_pos h]; have := textV_len v h; dsimp only; omega
 ·rw [if_neg h]; simp
theorem printA_len (a : Adr) : (printA a).1.length ≤ 18000 := by
 unfold printA
 by_cases h : checkA a = 0
 ·rw [if_pos h]; have := textA_le a h; dsimp only; omega
 ·rw [if_neg h]; simp
theorem cseqS_len (n : Int) : (cseqS n nNotify).1.length ≤ 100 := by
 unfold cseqS
 split
 ·simp
 ·have := digits_len n
  simp only [List.length_append, List.length_cons]
  have : nNotify.length = 6 := rfl
  omega
def HdB (M : List Hdr) : Prop := ∀ h ∈ M, h.name.length ≤ 1073741824 ∧ h.value.length ≤ 1073741824
theorem HdB.app {M N : List Hdr} (h : HdB M) (g : HdB N) : HdB (M ++ N) := fun x hx => by rcases List.mem_append.1 hx with hx | hx; exact h x hx; exact g x hx
theorem HdB.one {n v : List UInt8} (h : n.length ≤ 1073741824) (g : v.length ≤ 1073741824) : HdB [⟨n, v⟩] := fun x hx => by rw [List.mem_singleton.1 hx]; exact ⟨h, g⟩
theorem HdB.routes {R : List (List UInt8)} (h : ∀ x ∈ R, x.length ≤ 1073741824) : HdB (routesN R) := fun x hx => by
 obtain ⟨r, hr, rfl⟩ := List.mem_map.1 hx
 exact ⟨by show nRoute.length ≤ _; decide, h r hr⟩
theorem HdB.all {hop fr dst seq host : List UInt8} {d : Dlg} {M : List Hdr} (h1 : hop.length ≤ 1073741824) (h2 : fr.length ≤ 1073741824) (h3 : dst.length ≤ 1073741824) (h4 : seq.length ≤ 1073741824) (h5 : host.length ≤ 1073741800) (h6 : d.call.length ≤ 1073741824) (h7 : ∀ x ∈ d.routes, x.length ≤ 1073741824) (h8 : HdB M) :
  HdB (hdrsN hop fr dst seq d host ++ M) := by
 have e : (sipA host).length ≤ 1073741824 := by unfold sipA; simp; omega
 have d8 : HdB [⟨nVia, hop⟩, ⟨nMaxF, n70⟩] := HdB.app (HdB.one (by decide) h1) (HdB.one (n := nMaxF) (v := n70) (by decide) (by decide))
 exact HdB.app (HdB.app (HdB.app (HdB.app (HdB.app (HdB.app (HdB.app d8 (HdB.routes h7)) (HdB.one (by decide) h2)) (HdB.one (by decide) h3)) (HdB.one (by decide) h6)) (HdB.one (by decide) h4)) (HdB.one (by decide) e)) h8
theorem RPrms.branch (w : World) (B : ByteArray) : RPrms (w.alloc (.cells #[.string ⟨#[98, 114, 97, 110, 99, 104]⟩, .string B, .bool true] 85)) (.slice (some ⟨w.heap.size, 0, none⟩) 1 1) [⟨nBrch, us B, true⟩] := by
 have b := Blk.new w 85 #[.string ⟨#[98, 114, 97, 110, 99, 104]⟩, .string B, .bool true]
 refine .inr ⟨w.heap.size, 0, 1, rfl, ρ _, by decide, b.lt, fun j hj => ?_⟩
 obtain rfl : j = 0 := by simp at hj; omega
 exact ⟨boxedCell b 0, (boxedCell b 1).trans (by simp [sv, bs_us]), boxedCell b 2⟩
section
variable {P : Program} {ops : Array Oper} {rest : List Oper} {o : Oper} {a : Act} {Q : Exit → Act → World → Prop} {w : World} {g : Nat} {t : TypeId}
theorem results_tct {fn : Func} {a b c : Tmp} {T : TypeId} {tmps : Array Value} {fs : Array Field} {vs : Array Value} {x y : Value} (h : fn.results = #[.tmp a, .cell b T, .tmp c]) (hx : tmps.getD a undef = x) (hp : tmps.getD b undef = .pointer (some ⟨g, 0, none⟩)) (hy : tmps.getD c undef = y)
  (hA : P.underlying T = some (.struct fs)) (hC : (P.info? T).map (·.size) = some vs.size) (hb : Blk w g t vs) : (results fn tmps).run P w = .ok (.tuple #[x, .agg vs, y]) w := by
 have hl := loadVar_blk hA hC hb
 rw [Array.getD_eq_getD_getElem?] at hp hx hy
 simp [results, h, hp, hx, hy, asAddr, hl, Result.andThen]
theorem flatH_len : ∀ L : List Hdr, (L.flatMap Hdr.cells).length = L.length * 2
 | [] => rfl
 | p :: r => by rw [List.flatMap_cons, List.length_append, flatH_len r, List.length_cons]; simp [Hdr.cells]; omega
theorem wpList_appHs {wE w : World} {base : Nat} {t : TypeId} {v vx : Value} {L M : List Hdr} {s x : Operand}
  (hgd : o.guard = none) (ho : o.op = .call { callee := .builtin .append, args := #[s, x], argTypes := #[t, t] })
  (ht : P.underlying t = some (.slice 68)) (hi : infoIs P 68 (.agg #[.string ⟨#[]⟩, .string ⟨#[]⟩]) 2 32)
  (hx : a.eval x = vx) (hR : RHdrs w vx M) (hs : a.eval s = v) (hown : Hdrs w base v L) (hB : Below base wE w) (hbase : base ≤ wE.heap.size)
  (hbd : (L.length + M.length) * 32 ≤ 140737488355328)
  (h : ∀ v' w', Hdrs w' base v' (L ++ M) → Below base wE w' → wpList P ops Q rest (a.put o.dst v') w') :
  wpList P ops Q (o :: rest) a w := by
 obtain ⟨i, hi0, hi1, hi2, hi3⟩ := info_parts hi
 rcases hR with ⟨⟨ao, c, hv⟩, h0⟩ | ⟨b, off, cap, hv, hc1, hc2, hlt, hcells⟩
 ·subst h0
  have hrun : (Builtin.append_ #[t, t] o.type #[v, .slice ao 0 c]).run P w = .ok v w := by
   rcases hown.2 with ⟨rfl, _⟩ | ⟨g, cap, cur, rfl, _, hgg, hle, _⟩
   ·cases ao <;> simp [Builtin.append_, run_underlying ht, sizeOf, typeInfo, hi0, Builtin.lenOf, Builtin.firstCells, loadCells, loadCellsFrom]
   ·cases ao with
    | some ad =>
     have := run_append_room_cells (P := P) w t o.type 68 i ht hi0 g 0 L.length cap ad 0 c [] (by simp) (fun j u h => by simp at h) (fun u h => by cases h) hle (fun j h => by simp at h) (fun j h => by simp at h)
     rw [this]
     first | rfl | simp [World.setCells]
    | none => simp [Builtin.append_, run_underlying ht, sizeOf, typeInfo, hi0, Builtin.lenOf, hle, Builtin.firstCells, storeCells, Addr.add_lit]
  refine wpList_plain hgd fun K hK' => ?_
  unfold Oper.wp
  simp [execOp, ho, resolve, invoke, builtin, hs, hx, hv, hrun, Result.andThen]
  exact hK' _ _ (h _ _ (by rw [List.append_nil]; exact hown) hB)
 refine wpList_plain hgd fun K hK => ?_
 subst hv
 have hsz2 := hB.size
 refine wp_append_own _ s x t ho base 68 i _ 2 32 ht hi0 hi1 hi2 hi3 rfl (by decide) v L.length (L.flatMap Hdr.cells) hs hown ⟨b, off, none⟩ M.length cap (M.flatMap Hdr.cells) hx (flatH_len M) ?_ ?_ (by simp only [maxLen]; omega) hbd (by omega) ?_
 ·intro j u hu
  have hadd : (⟨b, off, none⟩ : Addr).add j = ⟨b, off + j, none⟩ := by unfold Addr.add; split <;> simp_all
  rw [hadd]
  have hj0 : j < M.length * 2 := by rw [← flatH_len]; exact (List.getElem?_eq_some_iff.1 hu).1
  have hj : j / 2 < M.length := by omega
  have e := flat_atH M (j / 2) hj (j % 2) (Nat.mod_lt _ (by decide))
  rw [show j / 2 * 2 + j % 2 = j by omega, hu] at e
  obtain ⟨h0, h1⟩ := hcells (j / 2) hj
  have hr : j % 2 = 0 ∨ j % 2 = 1 := by omega
  rcases hr with hr | hr <;> rw [hr] at e <;> simp [Hdr.cells] at e <;> rw [e]
  ·rw [show off + j = off + j / 2 * 2 by omega]; exact h0
  ·rw [show off + j = off + j / 2 * 2 + 1 by omega]; exact h1
 ·intro u hu
  obtain ⟨p, _, hu⟩ := List.mem_flatMap.1 hu
  simp only [Hdr.cells, sv, List.mem_cons, List.not_mem_nil, or_false] at hu
  rcases hu with rfl | rfl <;> rfl
 ·intro v' w' ho' hg _
  refine hK _ _ (h v' w' ?_ (hB.grown hg (by omega) ?_))
  ·unfold Hdrs; simpa using ho'
  ·intro k hk; exact ((World.ownsRow.lt hown) k hk).1
end
theorem hdrs_to {w : World} {base : Nat} {v : Value} {L : List Hdr} (h : Hdrs w base v L) : ∃ ao cap, v = .slice ao L.length cap := by
 obtain ⟨ao, cap, e, _⟩ := h.len
 exact ⟨ao, cap, e⟩
theorem hdrs_to1 {w : World} {base : Nat} {v : Value} {L : List Hdr} {p : Hdr} (h : Hdrs w base v (L ++ [p])) : ∃ ao cap, v = .slice ao (L.length + 1) cap := by
 obtain ⟨ao, cap, e, _⟩ := h.len
 exact ⟨ao, cap, by rw [e, List.length_append]; rfl⟩
def Lns (w : World) (g : Nat) (L : List Hdr) : Prop := ∃ v, Blk w g 92 #[v] ∧ Hdrs w (g + 1) v L
theorem Lns.below {w w' : World} {g B : Nat} {L : List Hdr} (h : Lns w g L) (hB : Below B w w') (hs : w.heap.size ≤ B) : Lns w' g L := by
 obtain ⟨v, b, hv⟩ := h
 exact ⟨v, (hB.block g (Nat.lt_of_lt_of_le b.lt hs)).trans b, hv.below hB hs⟩
set_option maxHeartbeats 1600000 in
theorem add_c (g : Nat) (L : List Hdr) (N V : ByteArray) (w : World) (h : Lns w g L) (hl : L.length ≤ 1073741824) :
  Calls Tryz.prog 41 #[.pointer (some ⟨g, 0, none⟩), .string N, .string V] w fun e w' => e = .returned (.tuple #[]) ∧ Lns w' g (L ++ [⟨us N, us V⟩]) ∧ Below g w w' := by
 obtain ⟨v, b, hv⟩ := h
 have hgl := b.lt
 have c0 : w.cell? ⟨g, 0, none⟩ = some v := boxedCell b 0
 have hBB : Below (g + 1) w w := Below.refl _ _
 have HB := κ b
 obtain ⟨ao, cap, rfl⟩ := hdrs_to hv
 clear b
 go_enter Tryz.func41, Tryz.ntmps41
 go_wp2_with (at_builtin; refine wpList_appH1 ⟨us N, us V⟩ rfl rfl rfl rfl Tryz.underlying43 infoH rfl rfl hv hBB (by omega) (by omega) ?_; intro v' w' hv' hB'; have b' : Blk w' g 92 #[.slice ao L.length cap] := (hB'.block g (by omega)).trans HB.out; obtain ⟨a2, k2, rfl⟩ := hdrs_to1 hv'; have c0' : w'.cell? ⟨g, 0, none⟩ = some (.slice ao L.length cap) := boxedCell b' 0; have f0' := boxedFree b' 0)
 go_end0
 refine ⟨rfl, ⟨_, b'.set_ 0 _, hv'.set (p := ⟨g, 0, none⟩) (by show g < g + 1; omega) _⟩, (hB'.mono (show g ≤ g + 1 by omega)).setCell (p := ⟨g, 0, none⟩) (ρ _) _⟩
end Go.Proofs.YtipdiddjhimdcaaGreatDoor
