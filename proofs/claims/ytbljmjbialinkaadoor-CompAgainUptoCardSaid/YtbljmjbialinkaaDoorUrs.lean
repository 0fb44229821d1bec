/-
  URIs: the plain spec (chapter 3), and the plain laws of reading back what was written.
-/
import Derived.Test.YtbljmjbialinkaaDoorVia
namespace Go.Proofs.YtbljmjbialinkaaDoor

structure Uri where
  scheme : List UInt8
  user : List UInt8
  host : List UInt8
  port : Int
  ps : List Prm
  hs : List Prm
deriving DecidableEq
def uri0 : Uri := ⟨[], [], [], 0, [], []⟩
def nSip : List UInt8 := [115, 105, 112]
def nSips : List UInt8 := [115, 105, 112, 115]
def nPres : List UInt8 := [112, 114, 101, 115]
def schemeS (l : List UInt8) : Bool := l == nSip || l == nSips || l == nPres
def kUsers : List UInt8 := [38, 61, 43, 36, 44, 59, 63, 47]
def kParams : List UInt8 := [91, 93, 47, 58, 38, 43, 36]
def kHeaders : List UInt8 := [91, 93, 47, 63, 58, 43, 36]
def okU (p : Prm) : Bool := decide (1 ≤ p.name.length) && decide (p.name.length ≤ 64) && decide (p.value.length ≤ 64) && (p.has || p.value == [])
def twiceU (d : List Prm) (n : List UInt8) : Bool := d.any fun q => same q.name n
def listGo : List Prm → List Prm → Bool
  | _, [] => true
  | d, p :: r => okU p && !(twiceU d p.name) && listGo (d ++ [p]) r
def listU (L : List Prm) : Bool := decide (L.length ≤ 16) && listGo [] L
def checkU (u : Uri) : Int :=
  if schemeS u.scheme = false then 30 else if 64 < u.user.length then 31 else if hostS u.host = false then 32
  else if u.port < 0 ∨ 65535 < u.port then 33 else if listU u.ps = false then 34 else if listU u.hs = false then 34 else if (u.hs.all fun h => h.has) = false then 34 else 0
def pairS (p : Prm) (keep : List UInt8) : List UInt8 := escape p.name keep ++ (if p.has = true then 61 :: escape p.value keep else [])
def userT (u : List UInt8) : List UInt8 := if u = [] then [] else escape u kUsers ++ [64]
def psT (L : List Prm) : List UInt8 := L.flatMap fun p => 59 :: pairS p kParams
def hsT : List Prm → List UInt8
  | [] => []
  | p :: r => 63 :: (pairS p kHeaders ++ r.flatMap fun q => 38 :: pairS q kHeaders)
def textU (u : Uri) : List UInt8 := u.scheme ++ 58 :: (userT u.user ++ (u.host ++ (portT u.port ++ (psT u.ps ++ hsT u.hs))))
def printU (u : Uri) : List UInt8 × Int := if checkU u = 0 then (textU u, 0) else ([], checkU u)
def mayW (keep : List UInt8) (c : UInt8) : Bool := c.toNat == 37 || testc 16 c || hasb keep c
def writtenS (l keep : List UInt8) : Option (List UInt8) := if l.all (mayW keep) = true then unesc l else none
def readGo (keep : List UInt8) : List (List UInt8) → Option (List Prm)
  | [] => some []
  | x :: r => (writtenS (cutb 61 x).1 keep).bind fun n => (writtenS (cutb 61 x).2.1 keep).bind fun v => (readGo keep r).map (⟨n, v, (cutb 61 x).2.2⟩ :: ·)
def userS (l : List UInt8) : Option (List UInt8 × List UInt8) :=
  if (cutb 64 l).2.2 = true then
    match writtenS (cutb 64 l).1 kUsers with
    | some t => if t = [] ∨ 64 < t.length then none else some (t, (cutb 64 l).2.1)
    | none => none
  else some ([], l)
def endU (u : Uri) : Uri × Int := if checkU u = 0 then (u, 0) else (uri0, checkU u)
def parseU4 (sc us : List UInt8) (w : (List UInt8 × Int) × Int) (P H : Option (List Prm)) : Uri × Int :=
  if w.2 ≠ 0 then (uri0, w.2) else
  match P, H with
  | some P, some H => endU ⟨sc, us, w.1.1, w.1.2, P, H⟩
  | _, _ => (uri0, 34)
def parseU3 (sc us r : List UInt8) : Uri × Int :=
  parseU4 sc us (whereS ((splitc 59 (cutb 63 r).1).headD [])) (readGo kParams (splitc 59 (cutb 63 r).1).tail) (if (cutb 63 r).2.2 = true then readGo kHeaders (splitc 38 (cutb 63 r).2.1) else some [])
def parseU2 (sc r : List UInt8) : Uri × Int :=
  match userS r with
  | none => (uri0, 31)
  | some x => parseU3 sc x.1 x.2
def parseU (l : List UInt8) : Uri × Int :=
  if (cutb 58 l).2.2 = false ∨ schemeS (lowr (cutb 58 l).1) = false then (uri0, 30) else parseU2 (lowr (cutb 58 l).1) (cutb 58 l).2.1

theorem cutb_none (c : UInt8) : ∀ l : List UInt8, (∀ x ∈ l, x.toNat ≠ c.toNat) → cutb c l = (l, [], false)
  | [], _ => rfl
  | x :: r, h => by
    rw [cutb_no c x r (h x (List.mem_cons_self ..)), cutb_none c r (fun y hy => h y (List.mem_cons_of_mem _ hy))]
theorem splitc_join (c : UInt8) : ∀ (a b : List UInt8), (∀ x ∈ a, x.toNat ≠ c.toNat) → splitc c (a ++ c :: b) = a :: splitc c b := by
  intro a b h
  rw [splitc_cut, cutb_of c a b h]; rfl
theorem splitc_none (c : UInt8) (a : List UInt8) (h : ∀ x ∈ a, x.toNat ≠ c.toNat) : splitc c a = [a] := by
  rw [splitc_cut, cutb_none c a h]; rfl
theorem splitc_flat {α : Type} (c : UInt8) (f : α → List UInt8) : ∀ (L : List α) (a : List UInt8), (∀ x ∈ a, x.toNat ≠ c.toNat) → (∀ p ∈ L, ∀ x ∈ f p, x.toNat ≠ c.toNat) → splitc c (a ++ L.flatMap fun p => c :: f p) = a :: L.map f
  | [], a, h, _ => by rw [List.flatMap_nil, List.append_nil, splitc_none c a h]; rfl
  | p :: r, a, h, hL => by
    rw [List.flatMap_cons, List.cons_append, splitc_join c a _ h, splitc_flat c f r (f p) (hL p (List.mem_cons_self ..)) (fun q hq => hL q (List.mem_cons_of_mem _ hq))]; rfl
/-- the bytes of an escaped text -/
theorem escape_mem (keep : List UInt8) (l : List UInt8) : ∀ x ∈ escape l keep, x.toNat = 37 ∨ testc 16 x = true ∨ hasb keep x = true := by
  intro x hx
  unfold escape at hx
  obtain ⟨c, _, hc⟩ := List.mem_flatMap.1 hx
  unfold ebyte at hc
  split at hc
  · rename_i h
    rw [List.mem_singleton] at hc
    subst hc
    exact .inr h.2
  · have hd : ∀ n, n < 16 → testc 16 (hexd n) = true := by decide +kernel
    have hlt := c.toNat_lt
    rcases List.mem_cons.1 hc with rfl | hc
    · exact .inl rfl
    · rcases List.mem_cons.1 hc with rfl | hc
      · exact .inr (.inl (hd _ (by omega)))
      · rw [List.mem_singleton] at hc
        subst hc
        exact .inr (.inl (hd _ (by omega)))
theorem escape_mayW (keep : List UInt8) (l : List UInt8) : (escape l keep).all (mayW keep) = true := by
  rw [List.all_eq_true]
  intro x hx
  unfold mayW
  rcases escape_mem keep l x hx with h | h | h <;> simp [h]
theorem written_escape (l keep : List UInt8) : writtenS (escape l keep) keep = some l := by
  unfold writtenS
  rw [if_pos (escape_mayW keep l), unesc_escape]
theorem esc_no (k : Nat) (keep : List UInt8) (h : ∀ x : UInt8, (x.toNat == 37 || testc 16 x || hasb keep x) = true → x.toNat ≠ k) (l : List UInt8) : ∀ x ∈ escape l keep, x.toNat ≠ k := by
  intro x hx
  refine h x ?_
  rcases escape_mem keep l x hx with h | h | h <;> simp [h]
theorem pair_no (k : Nat) (keep : List UInt8) (h : ∀ x : UInt8, (x.toNat == 37 || testc 16 x || hasb keep x) = true → x.toNat ≠ k) (hk : k ≠ 61) (p : Prm) : ∀ x ∈ pairS p keep, x.toNat ≠ k := by
  intro x hx
  unfold pairS at hx
  rcases List.mem_append.1 hx with hx | hx
  · exact esc_no k keep h _ x hx
  · split at hx
    · rcases List.mem_cons.1 hx with rfl | hx
      · exact fun e => hk e.symm
      · exact esc_no k keep h _ x hx
    · cases hx
theorem kP (k : Nat) (hk : k = 64 ∨ k = 63 ∨ k = 59 ∨ k = 61 ∨ k = 62 ∨ k = 60 ∨ k = 34) : ∀ x : UInt8, (x.toNat == 37 || testc 16 x || hasb kParams x) = true → x.toNat ≠ k := by
  rcases hk with rfl | rfl | rfl | rfl | rfl | rfl | rfl <;> exact all_bytes _ (by decide +kernel)
theorem kH (k : Nat) (hk : k = 64 ∨ k = 38 ∨ k = 59 ∨ k = 61 ∨ k = 62 ∨ k = 60 ∨ k = 34) : ∀ x : UInt8, (x.toNat == 37 || testc 16 x || hasb kHeaders x) = true → x.toNat ≠ k := by
  rcases hk with rfl | rfl | rfl | rfl | rfl | rfl | rfl <;> exact all_bytes _ (by decide +kernel)
theorem kU (k : Nat) (hk : k = 64 ∨ k = 62 ∨ k = 60 ∨ k = 34) : ∀ x : UInt8, (x.toNat == 37 || testc 16 x || hasb kUsers x) = true → x.toNat ≠ k := by
  rcases hk with rfl | rfl | rfl | rfl <;> exact all_bytes _ (by decide +kernel)
theorem hch_no (x : UInt8) (h : hch x = true) : x.toNat ≠ 64 ∧ x.toNat ≠ 63 ∧ x.toNat ≠ 59 ∧ x.toNat ≠ 62 ∧ x.toNat ≠ 60 ∧ x.toNat ≠ 34 := by
  have := all_bytes (fun c => hch c = true → c.toNat ≠ 64 ∧ c.toNat ≠ 63 ∧ c.toNat ≠ 59 ∧ c.toNat ≠ 62 ∧ c.toNat ≠ 60 ∧ c.toNat ≠ 34) (by decide +kernel) x
  exact this h
theorem portT_no (p : Int) : ∀ x ∈ portT p, x.toNat ≠ 64 ∧ x.toNat ≠ 63 ∧ x.toNat ≠ 59 ∧ x.toNat ≠ 62 ∧ x.toNat ≠ 60 ∧ x.toNat ≠ 34 := by
  intro x hx
  unfold portT at hx
  split at hx
  · rcases List.mem_cons.1 hx with rfl | hx
    · decide
    · have := (isDig_iff x).1 (List.all_eq_true.1 (digits_all p) x hx)
      omega
  · cases hx
/-- the bytes of a host and its port -/
theorem hp_no (h : List UInt8) (p : Int) (hh : hostS h = true) : ∀ x ∈ h ++ portT p, x.toNat ≠ 64 ∧ x.toNat ≠ 63 ∧ x.toNat ≠ 59 ∧ x.toNat ≠ 62 ∧ x.toNat ≠ 60 ∧ x.toNat ≠ 34 := by
  intro x hx
  rcases List.mem_append.1 hx with hx | hx
  · exact hch_no x ((host_all h hh).1 x hx)
  · exact portT_no p x hx
theorem psT_no (k : Nat) (hk : k = 64 ∨ k = 63 ∨ k = 62 ∨ k = 60 ∨ k = 34) (L : List Prm) : ∀ x ∈ psT L, x.toNat ≠ k := by
  intro x hx
  unfold psT at hx
  obtain ⟨p, _, hx⟩ := List.mem_flatMap.1 hx
  rcases List.mem_cons.1 hx with rfl | hx
  · show (59 : Nat) ≠ k
    omega
  · exact pair_no k kParams (kP k (by omega)) (by omega) p x hx
theorem hsT_no (k : Nat) (hk : k = 64 ∨ k = 62 ∨ k = 60 ∨ k = 34) (L : List Prm) : ∀ x ∈ hsT L, x.toNat ≠ k := by
  intro x hx
  cases L with
  | nil => cases hx
  | cons p r =>
    rw [hsT] at hx
    rcases List.mem_cons.1 hx with rfl | hx
    · show (63 : Nat) ≠ k
      omega
    · rcases List.mem_append.1 hx with hx | hx
      · exact pair_no k kHeaders (kH k (by omega)) (by omega) p x hx
      · obtain ⟨q, _, hx⟩ := List.mem_flatMap.1 hx
        rcases List.mem_cons.1 hx with rfl | hx
        · show (38 : Nat) ≠ k
          omega
        · exact pair_no k kHeaders (kH k (by omega)) (by omega) q x hx
theorem cut_pair (keep : List UInt8) (h : ∀ x : UInt8, (x.toNat == 37 || testc 16 x || hasb keep x) = true → x.toNat ≠ 61) (p : Prm) : cutb 61 (pairS p keep) = (escape p.name keep, (if p.has = true then escape p.value keep else []), p.has) := by
  unfold pairS
  cases hp : p.has
  · rw [if_neg (by decide), if_neg (by decide), List.append_nil, cutb_none 61 _ (esc_no 61 keep h _)]
  · rw [if_pos rfl, if_pos rfl, cutb_of 61 _ _ (esc_no 61 keep h _)]
theorem written_nil (keep : List UInt8) : writtenS [] keep = some [] := rfl
theorem readGo_pairs (keep : List UInt8) (h : ∀ x : UInt8, (x.toNat == 37 || testc 16 x || hasb keep x) = true → x.toNat ≠ 61) : ∀ L : List Prm, (∀ p ∈ L, p.has = true ∨ p.value = []) → readGo keep (L.map fun p => pairS p keep) = some L
  | [], _ => rfl
  | p :: r, hL => by
    rw [List.map_cons, readGo, cut_pair keep h p]
    dsimp only
    rw [written_escape, readGo_pairs keep h r (fun q hq => hL q (List.mem_cons_of_mem _ hq))]
    have hv : writtenS (if p.has = true then escape p.value keep else []) keep = some p.value := by
      split
      · exact written_escape _ _
      · rename_i hn
        rcases hL p (List.mem_cons_self ..) with h1 | h1
        · exact absurd h1 hn
        · rw [h1]; exact written_nil keep
    rw [hv]; rfl
theorem listGo_ok : ∀ (L d : List Prm), listGo d L = true → ∀ p ∈ L, okU p = true
  | [], _, _ => fun p hp => by cases hp
  | q :: r, d, h => by
    rw [listGo, Bool.and_eq_true, Bool.and_eq_true] at h
    intro p hp
    rcases List.mem_cons.1 hp with rfl | hp
    · exact h.1.1
    · exact listGo_ok r (d ++ [q]) h.2 p hp
theorem listU_ok {L : List Prm} (h : listU L = true) : L.length ≤ 16 ∧ ∀ p ∈ L, 1 ≤ p.name.length ∧ p.name.length ≤ 64 ∧ p.value.length ≤ 64 ∧ (p.has = true ∨ p.value = []) := by
  unfold listU at h
  rw [Bool.and_eq_true, decide_eq_true_eq] at h
  refine ⟨h.1, fun p hp => ?_⟩
  have := listGo_ok L [] h.2 p hp
  unfold okU at this
  simpa [and_assoc] using this
theorem checkU_parts (u : Uri) (h : checkU u = 0) : schemeS u.scheme = true ∧ u.user.length ≤ 64 ∧ hostS u.host = true ∧ 0 ≤ u.port ∧ u.port ≤ 65535 ∧ listU u.ps = true ∧ listU u.hs = true ∧ (u.hs.all fun h => h.has) = true := by
  unfold checkU at h
  cases h1 : schemeS u.scheme
  · rw [h1, if_pos rfl] at h; exact absurd h (by decide)
  · rw [h1, if_neg (by decide)] at h
    split at h
    · exact absurd h (by decide)
    · rename_i h2
      cases h3 : hostS u.host
      · rw [h3, if_pos rfl] at h; exact absurd h (by decide)
      · rw [h3, if_neg (by decide)] at h
        split at h
        · exact absurd h (by decide)
        · rename_i h4
          cases h5 : listU u.ps
          · rw [h5, if_pos rfl] at h; exact absurd h (by decide)
          · rw [h5, if_neg (by decide)] at h
            cases h6 : listU u.hs
            · rw [h6, if_pos rfl] at h; exact absurd h (by decide)
            · rw [h6, if_neg (by decide)] at h
              cases h7 : (u.hs.all fun h => h.has)
              · rw [h7, if_pos rfl] at h; exact absurd h (by decide)
              · exact ⟨rfl, by omega, rfl, by omega, by omega, rfl, rfl, rfl⟩
theorem scheme_facts (l : List UInt8) (h : schemeS l = true) : (∀ x ∈ l, x.toNat ≠ 58) ∧ lowr l = l ∧ l.length ≤ 4 ∧ (∀ x ∈ l, x.toNat ≠ 62 ∧ x.toNat ≠ 60 ∧ x.toNat ≠ 34) ∧ l ≠ [] := by
  unfold schemeS at h
  simp only [Bool.or_eq_true, beq_iff_eq] at h
  rcases h with (rfl | rfl) | rfl <;> exact ⟨by decide, by decide +kernel, by decide, by decide, by decide⟩
theorem userS_back (u r : List UInt8) (hu : u.length ≤ 64) (hr : ∀ x ∈ r, x.toNat ≠ 64) : userS (userT u ++ r) = some (u, r) := by
  unfold userT
  split
  · rename_i h
    rw [h, List.nil_append]
    unfold userS
    rw [cutb_none 64 r hr, if_neg (by exact Bool.false_ne_true)]
  · rename_i h
    unfold userS
    rw [List.append_assoc, show [64] ++ r = (64 : UInt8) :: r from rfl, cutb_of 64 _ _ (esc_no 64 kUsers (kU 64 (.inl rfl)) u), if_pos rfl]
    dsimp only
    rw [written_escape]
    dsimp only
    rw [if_neg (by rintro (h1 | h1); exact h h1; omega)]
/-- A URI THAT IS WRITTEN IS READ AS IT WAS -/
theorem parseU_text (u : Uri) (h : checkU u = 0) : parseU (textU u) = (u, 0) := by
  obtain ⟨h1, h2, h3, h4, h5, h6, h7, h8⟩ := checkU_parts u h
  obtain ⟨s1, s2, _, _, _⟩ := scheme_facts _ h1
  have hc : cutb 58 (textU u) = (u.scheme, userT u.user ++ (u.host ++ (portT u.port ++ (psT u.ps ++ hsT u.hs))), true) := cutb_of 58 _ _ s1
  have hp := hp_no u.host u.port h3
  have hus : userS (userT u.user ++ (u.host ++ (portT u.port ++ (psT u.ps ++ hsT u.hs)))) = some (u.user, u.host ++ (portT u.port ++ (psT u.ps ++ hsT u.hs))) := by
    refine userS_back _ _ h2 fun x hx => ?_
    rw [← List.append_assoc] at hx
    rcases List.mem_append.1 hx with hx | hx
    · exact (hp x hx).1
    · rcases List.mem_append.1 hx with hx | hx
      · exact psT_no 64 (.inl rfl) _ x hx
      · exact hsT_no 64 (.inl rfl) _ x hx
  unfold parseU
  rw [hc]
  dsimp only
  rw [s2, if_neg (by rintro (h | h); cases h; rw [h1] at h; cases h)]
  unfold parseU2
  rw [hus]
  dsimp only
  have hfront : ∀ x ∈ u.host ++ (portT u.port ++ psT u.ps), x.toNat ≠ 63 := fun x hx => by
    rw [← List.append_assoc] at hx
    rcases List.mem_append.1 hx with hx | hx
    · exact (hp x hx).2.1
    · exact psT_no 63 (.inr (.inl rfl)) _ x hx
  have hq : cutb 63 (u.host ++ (portT u.port ++ (psT u.ps ++ hsT u.hs))) = (u.host ++ (portT u.port ++ psT u.ps), (hsT u.hs).tail, !u.hs.isEmpty) := by
    rw [show u.host ++ (portT u.port ++ (psT u.ps ++ hsT u.hs)) = (u.host ++ (portT u.port ++ psT u.ps)) ++ hsT u.hs from by simp]
    cases hhs : u.hs with
    | nil => rw [hsT, List.append_nil, cutb_none 63 _ hfront]; rfl
    | cons q r => rw [hsT, cutb_of 63 _ _ hfront]; rfl
  have hsp : splitc 59 (u.host ++ (portT u.port ++ psT u.ps)) = (u.host ++ portT u.port) :: u.ps.map fun p => pairS p kParams := by
    rw [← List.append_assoc]
    exact splitc_flat 59 (fun p => pairS p kParams) u.ps _ (fun x hx => (hp x hx).2.2.1) (fun p _ x hx => pair_no 59 kParams (kP 59 (by omega)) (by decide) p x hx)
  have hhd : (if (!u.hs.isEmpty) = true then readGo kHeaders (splitc 38 (hsT u.hs).tail) else some []) = some u.hs := by
    have hok := (listU_ok h7).2
    cases hhs : u.hs with
    | nil => rfl
    | cons q r =>
      rw [hhs] at hok
      have e : splitc 38 (hsT (q :: r)).tail = (q :: r).map fun p => pairS p kHeaders := by
        rw [hsT]
        exact splitc_flat 38 (fun p => pairS p kHeaders) r _ (fun x hx => pair_no 38 kHeaders (kH 38 (by omega)) (by decide) q x hx) (fun p _ x hx => pair_no 38 kHeaders (kH 38 (by omega)) (by decide) p x hx)
      rw [if_pos (show (!(q :: r).isEmpty) = true from rfl), e]
      exact readGo_pairs kHeaders (kH 61 (by omega)) _ (fun p hp => (hok p hp).2.2.2)
  unfold parseU3
  rw [hq]
  dsimp only
  rw [hsp, hhd]
  show parseU4 u.scheme u.user (whereS (u.host ++ portT u.port)) (readGo kParams (u.ps.map fun p => pairS p kParams)) (some u.hs) = (u, 0)
  rw [where_back u.host u.port h3 h4 h5, readGo_pairs kParams (kP 61 (by omega)) u.ps (fun p hp => ((listU_ok h6).2 p hp).2.2.2)]
  unfold parseU4
  rw [if_neg (fun h => h rfl)]
  dsimp only
  unfold endU
  rw [if_pos h]
theorem endU_ok (u : Uri) : ((endU u).2 = 0 → checkU (endU u).1 = 0) ∧ ((endU u).2 ≠ 0 → (endU u).1 = uri0) := by
  unfold endU
  split
  · rename_i h; exact ⟨fun _ => h, fun h => absurd rfl h⟩
  · rename_i h; exact ⟨fun h1 => absurd h1 h, fun _ => rfl⟩
/-- WHAT IS READ MAY BE WRITTEN -/
theorem parseU_ok (l : List UInt8) : ((parseU l).2 = 0 → checkU (parseU l).1 = 0) ∧ ((parseU l).2 ≠ 0 → (parseU l).1 = uri0) := by
  have bad : ∀ c : Int, c ≠ 0 → ((uri0, c).2 = 0 → checkU (uri0, c).1 = 0) ∧ ((uri0, c).2 ≠ 0 → (uri0, c).1 = uri0) := fun c hc => ⟨fun h => absurd h hc, fun _ => rfl⟩
  unfold parseU
  split
  · exact bad 30 (by decide)
  · unfold parseU2
    split
    · exact bad 31 (by decide)
    · unfold parseU3 parseU4
      split
      · rename_i h; exact bad _ h
      · split
        · exact endU_ok _
        · exact bad 34 (by decide)
theorem escape_le (l keep : List UInt8) : (escape l keep).length ≤ 3 * l.length := by
  unfold escape
  induction l with
  | nil => exact Nat.zero_le _
  | cons c r ih =>
    rw [List.flatMap_cons, List.length_append, List.length_cons]
    have : (ebyte keep c).length ≤ 3 := by unfold ebyte; split <;> simp
    omega
theorem pair_le (p : Prm) (keep : List UInt8) (h1 : p.name.length ≤ 64) (h2 : p.value.length ≤ 64) : (pairS p keep).length ≤ 400 := by
  have a := escape_le p.name keep
  have b := escape_le p.value keep
  unfold pairS
  split <;> simp <;> omega
theorem flat_le {α : Type} (f : α → List UInt8) (B : Nat) : ∀ L : List α, (∀ p ∈ L, (f p).length ≤ B) → (L.flatMap f).length ≤ B * L.length
  | [], _ => Nat.zero_le _
  | p :: r, h => by
    have a := h p (List.mem_cons_self ..)
    have b := flat_le f B r (fun q hq => h q (List.mem_cons_of_mem _ hq))
    rw [List.flatMap_cons, List.length_append, List.length_cons, Nat.mul_succ]; omega
theorem psT_le (L : List Prm) (h : ∀ p ∈ L, p.name.length ≤ 64 ∧ p.value.length ≤ 64) : (psT L).length ≤ 401 * L.length := by
  unfold psT
  refine flat_le _ 401 L fun p hp => ?_
  have := pair_le p kParams (h p hp).1 (h p hp).2
  rw [List.length_cons]; omega
theorem hsT_le (L : List Prm) (h : ∀ p ∈ L, p.name.length ≤ 64 ∧ p.value.length ≤ 64) : (hsT L).length ≤ 401 * L.length := by
  cases L with
  | nil => exact Nat.zero_le _
  | cons p r =>
    have a := pair_le p kHeaders (h p (List.mem_cons_self ..)).1 (h p (List.mem_cons_self ..)).2
    have b := flat_le (fun q => 38 :: pairS q kHeaders) 401 r (fun q hq => by
      have := pair_le q kHeaders (h q (List.mem_cons_of_mem _ hq)).1 (h q (List.mem_cons_of_mem _ hq)).2
      rw [List.length_cons]; omega)
    rw [hsT, List.length_cons, List.length_append, List.length_cons, Nat.mul_succ]; omega
theorem textU_le (u : Uri) (h : checkU u = 0) : (textU u).length ≤ 14000 := by
  obtain ⟨h1, h2, h3, h4, h5, h6, h7, _⟩ := checkU_parts u h
  obtain ⟨_, _, s3, _, _⟩ := scheme_facts _ h1
  have a := psT_le u.ps (fun p hp => ⟨((listU_ok h6).2 p hp).2.1, ((listU_ok h6).2 p hp).2.2.1⟩)
  have b := hsT_le u.hs (fun p hp => ⟨((listU_ok h7).2 p hp).2.1, ((listU_ok h7).2 p hp).2.2.1⟩)
  have c := (host_low _ h3).2.2
  have d := portT_len u.port
  have e : (userT u.user).length ≤ 200 := by
    unfold userT
    have := escape_le u.user kUsers
    split <;> simp <;> omega
  have f := (listU_ok h6).1
  have g := (listU_ok h7).1
  unfold textU
  rw [List.length_append, List.length_cons, List.length_append, List.length_append, List.length_append, List.length_append]
  omega
/-- the bytes of a URI's text -/
theorem textU_no (u : Uri) (h : checkU u = 0) (k : Nat) (hk : k = 62 ∨ k = 60 ∨ k = 34) : ∀ x ∈ textU u, x.toNat ≠ k := by
  obtain ⟨h1, h2, h3, h4, h5, h6, h7, _⟩ := checkU_parts u h
  obtain ⟨_, _, _, s4, _⟩ := scheme_facts _ h1
  have hp := hp_no u.host u.port h3
  intro x hx
  unfold textU at hx
  rcases List.mem_append.1 hx with hx | hx
  · have := s4 x hx; omega
  · rcases List.mem_cons.1 hx with rfl | hx
    · show (58 : Nat) ≠ k
      omega
    · rcases List.mem_append.1 hx with hx | hx
      · unfold userT at hx
        split at hx
        · cases hx
        · rcases List.mem_append.1 hx with hx | hx
          · exact esc_no k kUsers (kU k (by omega)) _ x hx
          · rw [List.mem_singleton] at hx
            subst hx
            show (64 : Nat) ≠ k
            omega
      · rw [← List.append_assoc] at hx
        rcases List.mem_append.1 hx with hx | hx
        · have := hp x hx; omega
        · rcases List.mem_append.1 hx with hx | hx
          · exact psT_no k (by omega) _ x hx
          · exact hsT_no k (by omega) _ x hx

end Go.Proofs.YtbljmjbialinkaaDoor
