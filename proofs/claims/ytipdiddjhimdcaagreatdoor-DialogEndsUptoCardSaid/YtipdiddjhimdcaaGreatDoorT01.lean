/-
  Packed: XScS, XNum, XFrS, XVia, XAds, XHdr, XBig.
-/
import Derived.Test.YtipdiddjhimdcaaGreatDoorS04
import Derived.Laws.Tables
namespace Go.Proofs.YtipdiddjhimdcaaGreatDoor

section
open Go.RowKit

end

section
open Go.RowKit

end

section
open Go.RowKit

end

section
theorem dig_digit (n : Nat) (h : n < 10) : testc 1 (dig n) = true := by
  have := (by decide : ∀ n : Fin 10, testc 1 (dig n.val) = true)
  exact this ⟨n, h⟩
theorem digF_ne : ∀ (f n : Nat), 0 < f → digF f n ≠ []
  | 0, _, h => absurd h (by decide)
  | f + 1, n, _ => by
    unfold digF; split
    · simp
    · simp
theorem digF_all : ∀ (f n : Nat), allc 1 (digF f n) = true
  | 0, _ => rfl
  | f + 1, n => by
    unfold digF; split
    · rename_i h; simp [allc, dig_digit n h]
    · have := digF_all f (n / 10)
      unfold allc at *
      rw [List.all_append, this]; simp [dig_digit (n % 10) (by omega)]
end

end Go.Proofs.YtipdiddjhimdcaaGreatDoor

namespace Go.Proofs.YtipdiddjhimdcaaGreatDoor

theorem digits_all (n : Int) : (digits n).all isDig = true := by
  rw [← allc_dig]; unfold digits; split
  · rfl
  · exact digF_all _ _
theorem digits_ne (n : Int) (h : 0 ≤ n) : digits n ≠ [] := by
  unfold digits; rw [if_neg (by omega)]; exact digF_ne _ _ (by decide)
theorem blank_dig (c : UInt8) (h : isDig c = true) : blank c = false := by
  have := all_bytes (fun c => isDig c = true → blank c = false) (by decide +kernel) c
  exact this h
theorem dropWhile_none (p : UInt8 → Bool) (l : List UInt8) (h : ∀ c, l.head? = some c → p c = false) : l.dropWhile p = l := by
  cases l with
  | nil => rfl
  | cons c r => rw [List.dropWhile_cons_of_neg (by rw [h c rfl]; decide)]
/-- a text with no blank at its ends, blanks around it -/
theorem trim_mid (a l b : List UInt8) (ha : a.all blank = true) (hb : b.all blank = true) (h0 : ∀ c, l.head? = some c → blank c = false) (h1 : ∀ c, l.getLast? = some c → blank c = false) (hl : l ≠ []) : trim (a ++ l ++ b) = l := by
  have hd : ∀ (x y : List UInt8), x.all blank = true → (x ++ y).dropWhile blank = y.dropWhile blank := by
    intro x
    induction x with
    | nil => intro y _; rfl
    | cons c r ih =>
      intro y h
      rw [List.all_cons, Bool.and_eq_true] at h
      rw [List.cons_append, List.dropWhile_cons_of_pos h.1]
      exact ih y h.2
  unfold trim trimR trimL
  rw [List.append_assoc, hd a _ ha]
  have e1 : (l ++ b).dropWhile blank = l ++ b := by
    refine dropWhile_none _ _ fun c hc => h0 c ?_
    cases l with
    | nil => exact absurd rfl hl
    | cons x r => exact hc
  rw [e1, List.reverse_append, hd b.reverse _ (by rw [List.all_reverse]; exact hb)]
  have e2 : l.reverse.dropWhile blank = l.reverse := by
    refine dropWhile_none _ _ fun c hc => h1 c ?_
    rw [← List.head?_reverse]; exact hc
  rw [e2, List.reverse_reverse]
theorem trim_self (l : List UInt8) (h0 : ∀ c, l.head? = some c → blank c = false) (h1 : ∀ c, l.getLast? = some c → blank c = false) : trim l = l := by
  cases l with
  | nil => rfl
  | cons x r => simpa using trim_mid [] (x :: r) [] rfl rfl h0 h1 (by simp)
theorem dig_ends (l : List UInt8) (h : l.all isDig = true) : (∀ c, l.head? = some c → blank c = false) ∧ (∀ c, l.getLast? = some c → blank c = false) := by
  rw [List.all_eq_true] at h
  exact ⟨fun c hc => blank_dig c (h c (List.mem_of_mem_head? hc)), fun c hc => blank_dig c (h c (List.mem_of_mem_getLast? hc))⟩

end Go.Proofs.YtipdiddjhimdcaaGreatDoor

namespace Go.Proofs.YtipdiddjhimdcaaGreatDoor
open Go.RowKit

/-! ### The plain laws -/

theorem dig_facts (c : UInt8) (h : isDig c = true) : c.toNat ≠ 13 ∧ c.toNat ≠ 32 ∧ vis c = true := by
  have := all_bytes (fun c => isDig c = true → c.toNat ≠ 13 ∧ c.toNat ≠ 32 ∧ vis c = true) (by decide +kernel) c
  exact this h
end Go.Proofs.YtipdiddjhimdcaaGreatDoor

namespace Go.Proofs.YtipdiddjhimdcaaGreatDoor

theorem textV_len (v : Hop) (h : checkV v = 0) : (textV v).length ≤ 4000 := by
  obtain ⟨hh, _, hp, _⟩ := check_parts v h
  have h1 := (host_low _ hh).2.2
  have h2 := portT_len v.port
  have h3 := textS_le v.ps
  unfold textV
  rw [List.length_append, List.length_cons, List.length_append, List.length_append]
  have : nProto.length = 11 := rfl
  omega
end Go.Proofs.YtipdiddjhimdcaaGreatDoor

namespace Go.Proofs.YtipdiddjhimdcaaGreatDoor

theorem nameT_le (d : List UInt8) (h : d.length ≤ 64) : (nameT d).length ≤ 140 := by
  unfold nameT
  have := quote_le d
  split <;> simp <;> omega
theorem textA_le (a : Adr) (h : checkA a = 0) : (textA a).length ≤ 18000 := by
  obtain ⟨_, h2, h3, _⟩ := checkA_parts a h
  have e1 := nameT_le a.disp h2
  have e2 := textU_le a.uri h3
  have e3 := textS_le a.ps
  unfold textA
  rw [List.length_append, List.length_cons, List.length_append, List.length_cons]
  omega
end Go.Proofs.YtipdiddjhimdcaaGreatDoor

namespace Go.Proofs.YtipdiddjhimdcaaGreatDoor
open Go.RowKit

theorem hdrs_len {w : World} {base : Nat} {v : Value} {L : List Hdr} (h : Hdrs w base v L) (ty : TypeId) (w' : World) :
    (Builtin.len_ #[43] ty #[v]).run Tryz.prog w' = .ok (goInt L.length) w' := by
  obtain ⟨ao, cap, rfl, _⟩ := h.len
  exact run_len_slice _ 43 ty ao L.length cap (show Tryz.prog.underlying 43 = some (.slice (Tryz.prog.elem 43)) by kernel_rfl)
theorem infoH : infoIs Tryz.prog 68 (.agg #[.string ⟨#[]⟩, .string ⟨#[]⟩]) 2 32 := by unfold infoIs; kernel_rfl
section
variable {P : Program} {ops : Array Oper} {rest : List Oper} {o : Oper} {a : Act} {Q : Exit → Act → World → Prop}
theorem wpList_appH1 {wE w : World} {base : Nat} {t : TypeId} {v : Value} {L : List Hdr} {s x : Operand} {N V : ByteArray} (p : Hdr) (hN : us N = p.name) (hV : us V = p.value)
    (hgd : o.guard = none) (ho : o.op = .call { callee := .builtin .append, args := #[s, x], argTypes := #[t, t] })
    (ht : P.underlying t = some (.slice 68)) (hi : infoIs P 68 (.agg #[.string ⟨#[]⟩, .string ⟨#[]⟩]) 2 32)
    (hx : a.eval x = .slice (some ⟨w.heap.size, 0, none⟩) 1 1) (hs : a.eval s = v) (hown : Hdrs w base v L) (hB : Below base wE w) (hbase : base ≤ wE.heap.size)
    (hbd : (L.length + 1) * 32 ≤ 140737488355328)
    (hk : ∀ v' w', Hdrs w' base v' (L ++ [p]) → Below base wE w' → wpList P ops Q rest (a.put o.dst v') w') :
    wpList P ops Q (o :: rest) a (w.alloc (.cells #[.string N, .string V] 68)) := by
  refine wpList_app hgd ho ht hi rfl (by decide) hx hs hown hB hbase rfl (by simp; exact ⟨rfl, rfl⟩) (by decide) hbd ?_
  intro v' w' h1 h2 _ _
  refine hk v' w' ?_ h2
  unfold Hdrs
  have e : L.flatMap Hdr.cells ++ #[Value.string N, Value.string V].toList = (L ++ [p]).flatMap Hdr.cells := by
    rw [List.flatMap_append]; simp [Hdr.cells, sv, ← hN, ← hV]
  rw [← e, List.length_append]; exact h1
end

end Go.Proofs.YtipdiddjhimdcaaGreatDoor

namespace Go.Proofs.YtipdiddjhimdcaaGreatDoor
set_option linter.unusedSimpArgs false
set_option linter.unusedVariables false
open Go.RowKit Go.Sort

section
variable {P : Program} {w : World} {g : Nat} {t : TypeId}
end

theorem RDlg.setLout {w : World} {vs : Array Value} {d : Dlg} (h : RDlg w (.agg vs) d) (n : Int) : RDlg w (.agg (vs.setIfInBounds 25 (.int .i64 n))) ⟨d.call, d.loc, d.rem, d.tgt, d.routes, d.lin, n⟩ := by
  obtain ⟨u1, u2, u3, u4, u5, u6, u7, u8, u9, e, h1, h2, h3, h4, h5, h6, h7, h8, h9⟩ := h
  injection e with e
  subst e
  exact ⟨u1, u2, u3, u4, u5, u6, u7, u8, u9, rfl, h1, h2, h3, h4, h5, h6, h7, h8, h9⟩
/-! ### slices that do not lie in a given block -/
section
variable {P : Program} {ops : Array Oper} {rest : List Oper} {o : Oper} {a : Act} {Q : Exit → Act → World → Prop} {w : World} {t : TypeId}
end

end Go.Proofs.YtipdiddjhimdcaaGreatDoor

