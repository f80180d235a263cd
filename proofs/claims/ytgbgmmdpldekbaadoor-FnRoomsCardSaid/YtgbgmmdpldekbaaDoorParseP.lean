/-
  Texts cut into pieces and numbers read: plain.
-/
import Derived.Test.YtgbgmmdpldekbaaDoorTextP
import Derived.Lib.Split
import Derived.Lib.SplitLaws
namespace Go.Proofs.YtgbgmmdpldekbaaDoor

/-- A text cut at each occurrence of a byte. -/
def pieces (c : UInt8) : List UInt8 → List (List UInt8)
  | [] => [[]]
  | b :: l => if b = c then [] :: pieces c l else match pieces c l with | p :: ps => (b :: p) :: ps | [] => [[b]]
def pre (q : List UInt8) : List (List UInt8) → List (List UInt8)
  | p :: ps => (q ++ p) :: ps
  | [] => [q]
theorem pieces_ne (c : UInt8) : ∀ l, pieces c l ≠ []
  | [] => by simp [pieces]
  | b :: l => by
    rw [pieces]
    split
    · simp
    · split <;> simp
theorem pieces_sep (c : UInt8) (l : List UInt8) : pieces c (c :: l) = [] :: pieces c l := by rw [pieces, if_pos rfl]
theorem pieces_other {b c : UInt8} (h : b ≠ c) (l : List UInt8) : pieces c (b :: l) = pre [b] (pieces c l) := by
  rw [pieces, if_neg h]
  unfold pre
  split <;> rfl
theorem pre_nil {ps : List (List UInt8)} (h : ps ≠ []) : pre [] ps = ps := by
  cases ps with
  | nil => exact absurd rfl h
  | cons p ps => rfl
theorem pre_pre (q r : List UInt8) (ps : List (List UInt8)) : pre q (pre r ps) = pre (q ++ r) ps := by
  cases ps <;> simp [pre]
theorem index_sep (c : UInt8) (l : List UInt8) : Lib.index (c :: l) [c] = 0 := by simp [Lib.index, List.isPrefixOf]
theorem index_other {b c : UInt8} (h : b ≠ c) (l : List UInt8) : Lib.index (b :: l) [c] = if Lib.index l [c] == -1 then -1 else Lib.index l [c] + 1 := by
  have hp : ([c] : List UInt8).isPrefixOf (b :: l) = false := by simp [List.isPrefixOf, Ne.symm h]
  rw [Lib.index, hp]
  simp
theorem splitK_pieces (c : UInt8) : ∀ s, Lib.splitK [c] 0 (Lib.count s [c]) s = pieces c s
  | [] => by
    rw [Lib.count_one]
    rfl
  | b :: l => by
    have ih := splitK_pieces c l
    by_cases h : b = c
    · subst h
      have e : Lib.splitK [b] 0 (Lib.count l [b] + 1) (b :: l) = [] :: Lib.splitK [b] 0 (Lib.count l [b]) l := by
        rw [Lib.splitK, index_sep]
        simp
      rw [Lib.count_cons_eq, Nat.add_comm, pieces_sep, e, ih]
    · rw [Lib.count_cons_ne b c l h, pieces_other h, ← ih]
      cases hk : Lib.count l [c] with
      | zero => rfl
      | succ k =>
        have hm : ¬(Lib.index l [c] == -1) = true := fun e => by
          have := Lib.count_miss (beq_iff_eq.1 e)
          omega
        have hge := Lib.index_ge l [c]
        have hne : Lib.index l [c] ≠ -1 := fun e => hm (beq_iff_eq.2 e)
        obtain ⟨j, hj⟩ : ∃ j : Nat, Lib.index l [c] = j := ⟨(Lib.index l [c]).toNat, by omega⟩
        have hix : Lib.index (b :: l) [c] = ((j + 1 : Nat) : Int) := by rw [index_other h, if_neg hm, hj]; omega
        unfold Lib.splitK
        rw [if_neg hm, if_neg (show ¬(Lib.index (b :: l) [c] == -1) = true from fun e => by have := beq_iff_eq.1 e; omega), hix, hj]
        simp [pre]
def joinC (c : UInt8) : List (List UInt8) → List UInt8
  | [] => []
  | [p] => p
  | p :: q :: ps => p ++ c :: joinC c (q :: ps)
theorem join_cons (c : UInt8) (p : List UInt8) {ps : List (List UInt8)} (h : ps ≠ []) : joinC c (p :: ps) = p ++ c :: joinC c ps := by
  cases ps with
  | nil => exact absurd rfl h
  | cons q ps => rfl
theorem join_pre (c : UInt8) (q : List UInt8) {ps : List (List UInt8)} (h : ps ≠ []) : joinC c (pre q ps) = q ++ joinC c ps := by
  cases ps with
  | nil => exact absurd rfl h
  | cons p ps =>
    cases ps with
    | nil => rfl
    | cons r ps => simp [pre, joinC]
theorem join_pieces (c : UInt8) : ∀ l, joinC c (pieces c l) = l
  | [] => rfl
  | b :: l => by
    by_cases h : b = c
    · subst h
      rw [pieces_sep, join_cons _ _ (pieces_ne _ _), join_pieces]
      rfl
    · rw [pieces_other h, join_pre _ _ (pieces_ne _ _), join_pieces]
      rfl
theorem join_ends (c : UInt8) : ∀ {ps : List (List UInt8)}, ps ≠ [] → joinC c ps = (ps.dropLast.map (· ++ [c])).flatten ++ ps.getLast?.getD []
  | [], h => absurd rfl h
  | [p], _ => by simp [joinC]
  | p :: q :: ps, _ => by
    rw [join_cons c p (by simp), join_ends c (ps := q :: ps) (by simp)]
    simp [List.dropLast]
theorem pieces_snoc_sep (c : UInt8) : ∀ l, pieces c (l ++ [c]) = pieces c l ++ [[]]
  | [] => by simp [pieces]
  | b :: l => by
    rw [List.cons_append]
    by_cases h : b = c
    · subst h
      rw [pieces_sep, pieces_sep, pieces_snoc_sep]
      rfl
    · rw [pieces_other h, pieces_other h, pieces_snoc_sep]
      have := pieces_ne c l
      cases hp : pieces c l with
      | nil => exact absurd hp this
      | cons p ps => simp [pre]
theorem pieces_snoc_ne {b c : UInt8} (h : b ≠ c) : ∀ l, ∃ ps p, pieces c (l ++ [b]) = ps ++ [p ++ [b]]
  | [] => ⟨[], [], by simp [pieces, h]⟩
  | x :: l => by
    obtain ⟨ps, p, hp⟩ := pieces_snoc_ne h l
    rw [List.cons_append]
    by_cases hx : x = c
    · subst hx
      exact ⟨[] :: ps, p, by rw [pieces_sep, hp]; rfl⟩
    · rw [pieces_other hx, hp]
      cases ps with
      | nil => exact ⟨[], x :: p, by simp [pre]⟩
      | cons q ps => exact ⟨(x :: q) :: ps, p, by simp [pre]⟩
theorem pieces_len (c : UInt8) : ∀ l, (pieces c l).length ≤ l.length + 1
  | [] => by simp [pieces]
  | b :: l => by
    have ih := pieces_len c l
    by_cases h : b = c
    · subst h
      rw [pieces_sep]
      simp only [List.length_cons]
      omega
    · rw [pieces_other h]
      have := pieces_ne c l
      cases hp : pieces c l with
      | nil => exact absurd hp this
      | cons p ps =>
        rw [hp] at ih
        simp only [pre, List.length_cons] at ih ⊢
        omega
theorem pieces_short (c : UInt8) : ∀ (l p : List UInt8), p ∈ pieces c l → p.length ≤ l.length
  | [], p, h => by simp [pieces] at h; subst h; simp
  | b :: l, p, h => by
    by_cases hb : b = c
    · subst hb
      rw [pieces_sep] at h
      rcases List.mem_cons.1 h with rfl | h
      · simp
      · have := pieces_short _ l p h
        simp only [List.length_cons]
        omega
    · rw [pieces_other hb] at h
      cases hp : pieces c l with
      | nil => exact absurd hp (pieces_ne c l)
      | cons q ps =>
        rw [hp] at h
        simp only [pre] at h
        rcases List.mem_cons.1 h with rfl | h
        · have := pieces_short c l q (by rw [hp]; simp)
          simp only [List.length_append, List.length_cons, List.length_nil]
          omega
        · have := pieces_short c l p (by rw [hp]; simp [h])
          simp only [List.length_cons]
          omega

/-- Pieces as texts. -/
def toB (l : List UInt8) : ByteArray := ⟨l.toArray⟩
theorem toB_data (l : List UInt8) : (toB l).data.toList = l := rfl
theorem toB_self (s : ByteArray) : toB s.data.toList = s := rfl
theorem toB_size (l : List UInt8) : (toB l).size = l.length := by show l.toArray.size = _; simp
def pcs (c : UInt8) (s : ByteArray) : List ByteArray := (pieces c s.data.toList).map toB
theorem pcs_len (c : UInt8) (s : ByteArray) : (pcs c s).length ≤ s.size + 1 := by
  have := pieces_len c s.data.toList
  unfold pcs
  rw [List.length_map]
  exact this
theorem split_pcs (c : UInt8) (s : ByteArray) : Lib.splitB ⟨#[c]⟩ 0 (Lib.countB s ⟨#[c]⟩) s = pcs c s := by
  have h := Lib.splitB_data ⟨#[c]⟩ 0 (Lib.countB s ⟨#[c]⟩) s
  have h2 : (Lib.splitB ⟨#[c]⟩ 0 (Lib.countB s ⟨#[c]⟩) s).map (·.data.toList) = pieces c s.data.toList := by
    rw [h]
    exact splitK_pieces c s.data.toList
  unfold pcs
  rw [← h2, List.map_map]
  have : (toB ∘ fun x : ByteArray => x.data.toList) = id := by funext x; rfl
  rw [this, List.map_id]

/-- A canonical number in decimal. -/
def Canon (l : List UInt8) : Prop := l ≠ [] ∧ (1 < l.length → l[0]? ≠ some 48) ∧ ∀ b ∈ l, 48 ≤ b.toNat ∧ b.toNat ≤ 57
def valF (l : List UInt8) : Nat := l.foldl (fun n b => 10 * n + (b.toNat - 48)) 0
theorem valF_snoc (l : List UInt8) (b : UInt8) : valF (l ++ [b]) = 10 * valF l + (b.toNat - 48) := by simp [valF]
theorem snoc_ind {P : List UInt8 → Prop} (h0 : P []) (h1 : ∀ l b, P l → P (l ++ [b])) (l : List UInt8) : P l := by
  have : ∀ n (l : List UInt8), l.length = n → P l := by
    intro n
    induction n with
    | zero => intro l hl; rw [List.length_eq_zero_iff.1 hl]; exact h0
    | succ n ih =>
      intro l hl
      rcases List.eq_nil_or_concat l with rfl | ⟨m, b, rfl⟩
      · simp at hl
      · rw [List.concat_eq_append] at hl ⊢
        exact h1 m b (ih m (by simpa using hl))
  exact this _ l rfl
theorem valF_lt (l : List UInt8) : (∀ b ∈ l, 48 ≤ b.toNat ∧ b.toNat ≤ 57) → valF l < 10 ^ l.length := by
  refine snoc_ind (P := fun l => (∀ b ∈ l, 48 ≤ b.toNat ∧ b.toNat ≤ 57) → valF l < 10 ^ l.length) ?_ ?_ l
  · intro _; simp [valF]
  · intro l b ih h
    have h1 := ih (fun x hx => h x (by simp [hx]))
    have h2 := h b (by simp)
    rw [valF_snoc]
    simp only [List.length_append, List.length_singleton, Nat.pow_succ]
    omega
theorem valF_ge (l : List UInt8) : l ≠ [] → l[0]? ≠ some 48 → (∀ b ∈ l, 48 ≤ b.toNat ∧ b.toNat ≤ 57) → 10 ^ (l.length - 1) ≤ valF l := by
  refine snoc_ind (P := fun l => l ≠ [] → l[0]? ≠ some 48 → (∀ b ∈ l, 48 ≤ b.toNat ∧ b.toNat ≤ 57) → 10 ^ (l.length - 1) ≤ valF l) ?_ ?_ l
  · intro h; exact absurd rfl h
  · intro l b ih _ h0 h
    have h2 := h b (by simp)
    rw [valF_snoc]
    by_cases he : l = []
    · subst he
      simp at h0
      have : b.toNat ≠ 48 := fun e => h0 (by apply UInt8.toNat_inj.1; simpa using e)
      simp [valF]
      omega
    · have h1 := ih he (by rw [List.getElem?_append_left (List.length_pos_iff.2 he)] at h0; exact h0) (fun x hx => h x (by simp [hx]))
      have hl : 0 < l.length := List.length_pos_iff.2 he
      simp only [List.length_append, List.length_singleton]
      obtain ⟨m, hm⟩ : ∃ m, l.length = m + 1 := ⟨l.length - 1, by omega⟩
      rw [hm] at h1 ⊢
      simp only [Nat.add_sub_cancel] at h1 ⊢
      rw [Nat.pow_succ]
      omega
theorem canon_dec (l : List UInt8) : Canon l → Lib.decDigits (valF l) = l := by
  refine snoc_ind (P := fun l => Canon l → Lib.decDigits (valF l) = l) ?_ ?_ l
  · intro h; exact absurd rfl h.1
  · intro l b ih h
    have hb := h.2.2 b (by simp)
    have hofb : UInt8.ofNat (48 + (b.toNat - 48)) = b := by rw [show 48 + (b.toNat - 48) = b.toNat by omega]; exact UInt8.ofNat_toNat
    rw [valF_snoc]
    by_cases he : l = []
    · subst he
      rw [Lib.decDigits, dif_pos (by simp [valF]; omega)]
      simp [valF, hofb]
    · have hl : 0 < l.length := List.length_pos_iff.2 he
      have h0 : l[0]? ≠ some 48 := by
        have := h.2.1 (by simp; omega)
        rwa [List.getElem?_append_left hl] at this
      have hd : ∀ x ∈ l, 48 ≤ x.toNat ∧ x.toNat ≤ 57 := fun x hx => h.2.2 x (by simp [hx])
      have hv := valF_ge l he h0 hd
      have h1 : 1 ≤ 10 ^ (l.length - 1) := Nat.pos_of_ne_zero (by simp)
      rw [Lib.decDigits, dif_neg (by omega), show (10 * valF l + (b.toNat - 48)) / 10 = valF l by omega, show (10 * valF l + (b.toNat - 48)) % 10 = b.toNat - 48 by omega, ih ⟨he, fun _ => h0, hd⟩, hofb]
theorem numS_valF {l : List UInt8} (h : Canon l) : numS (valF l : Int) = toB l := by
  unfold numS Lib.itoa
  rw [if_neg (by omega), Int.toNat_natCast, canon_dec l h]
  rfl
open Classical in
noncomputable def natF (l : List UInt8) : Int × Bool := if Canon l ∧ l.length ≤ 9 then ((valF l : Int), true) else (0, false)
open Classical in
noncomputable def rdF (l : List UInt8) : Int := if Canon l ∧ l.length ≤ 6 then (valF l : Int) else -1
theorem natF_yes {l : List UInt8} (h : Canon l ∧ l.length ≤ 9) : natF l = ((valF l : Int), true) := by unfold natF; rw [if_pos h]
theorem natF_no {l : List UInt8} (h : ¬(Canon l ∧ l.length ≤ 9)) : natF l = (0, false) := by unfold natF; rw [if_neg h]
theorem rdF_yes {l : List UInt8} (h : Canon l ∧ l.length ≤ 6) : rdF l = valF l := by unfold rdF; rw [if_pos h]
theorem rdF_no {l : List UInt8} (h : ¬(Canon l ∧ l.length ≤ 6)) : rdF l = -1 := by unfold rdF; rw [if_neg h]
theorem rdF_ge {l : List UInt8} (h : 0 ≤ rdF l) : Canon l ∧ l.length ≤ 6 := by
  by_cases hc : Canon l ∧ l.length ≤ 6
  · exact hc
  · rw [rdF_no hc] at h; omega
theorem rdF_bd (l : List UInt8) : -1 ≤ rdF l ∧ rdF l ≤ 999999 := by
  by_cases hc : Canon l ∧ l.length ≤ 6
  · rw [rdF_yes hc]
    have h1 := valF_lt l hc.1.2.2
    have h2 : 10 ^ l.length ≤ 10 ^ 6 := Nat.pow_le_pow_right (by omega) hc.2
    omega
  · rw [rdF_no hc]; omega
theorem natF_bd (l : List UInt8) : 0 ≤ (natF l).1 ∧ (natF l).1 ≤ 999999999 := by
  by_cases hc : Canon l ∧ l.length ≤ 9
  · rw [natF_yes hc]
    have h1 := valF_lt l hc.1.2.2
    have h2 : 10 ^ l.length ≤ 10 ^ 9 := Nat.pow_le_pow_right (by omega) hc.2
    dsimp only
    omega
  · rw [natF_no hc]; simp
/-- Where the program's number is small, the reference reads the same. -/
theorem nat_rd {l : List UInt8} (h : (natF l).2 = true) (hs : (natF l).1 ≤ 999) : rdF l = (natF l).1 := by
  by_cases hc : Canon l ∧ l.length ≤ 9
  · rw [natF_yes hc] at hs ⊢
    dsimp only at hs ⊢
    refine rdF_yes ⟨hc.1, ?_⟩
    rcases Nat.lt_or_ge 6 l.length with h6 | h6
    · have := valF_ge l hc.1.1 (hc.1.2.1 (by omega)) hc.1.2.2
      have h2 : 10 ^ 6 ≤ 10 ^ (l.length - 1) := Nat.pow_le_pow_right (by omega) (by omega)
      omega
    · exact h6
  · rw [natF_no hc] at h; cases h
theorem rd_nat {l : List UInt8} (h : 0 ≤ rdF l) : natF l = (rdF l, true) := by
  have hc := rdF_ge h
  rw [natF_yes ⟨hc.1, by omega⟩, rdF_yes hc]
end Go.Proofs.YtgbgmmdpldekbaaDoor
