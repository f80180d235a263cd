/-
  Edits: undone, run in two parts, between two charts; plain.
-/
import Derived.Test.YtoofpajeogllhaaRun
import Derived.Test.YtoofpajeogllhaaBetI
import Derived.Test.YtoofpajeogllhaaTchP
namespace Go.Proofs.Ytoofpajeogllhaa
open Go.RowKit

theorem chart_inj {l : List Sp} (h : ChartP l) {i j : Nat} {x : Sp} (hi : l[i]? = some x) (hj : l[j]? = some x) : i = j := by
  have key : ∀ {i j : Nat}, i < j → l[i]? = some x → l[j]? = some x → False := fun {i j} hij hi hj => (h.1 j x hj).2 (mem_take_of hi hij)
  rcases Nat.lt_trichotomy i j with hij | hij | hij
  · exact (key hij hi hj).elim
  · exact hij
  · exact (key hij hj hi).elim
theorem take_mem {α : Type} {l : List α} {k : Nat} {x : α} (h : x ∈ l.take k) : ∃ j, j < k ∧ l[j]? = some x := by
  obtain ⟨j, hj⟩ := List.getElem?_of_mem h
  have hl := (List.getElem?_eq_some_iff.1 hj).1
  rw [List.length_take] at hl
  rw [List.getElem?_take_of_lt (by omega)] at hj
  exact ⟨j, by omega, hj⟩
theorem chart_set {l : List Sp} (h : ChartP l) {p : Nat} {a : Sp} (ha : SpotP a.1 a.2) (hn : a ∉ l) : ChartP (l.set p a) := by
  refine ⟨fun i x hx => ?_, by simpa using h.2⟩
  have old : ∀ {j : Nat} {y : Sp}, (l.set p a)[j]? = some y → (j = p ∧ y = a) ∨ (j ≠ p ∧ l[j]? = some y) := by
    intro j y hy
    by_cases hj : j = p
    · subst hj
      have hl := (List.getElem?_eq_some_iff.1 hy).1
      rw [List.length_set] at hl
      rw [List.getElem?_set_self hl] at hy
      cases hy
      exact .inl ⟨rfl, rfl⟩
    · rw [List.getElem?_set_ne (fun e => hj e.symm)] at hy
      exact .inr ⟨hj, hy⟩
  rcases old hx with ⟨rfl, rfl⟩ | ⟨hip, hxi⟩
  · refine ⟨ha, fun hm => ?_⟩
    obtain ⟨j, hj, hy⟩ := take_mem hm
    rcases old hy with ⟨rfl, _⟩ | ⟨_, hy⟩
    · omega
    · exact hn (mem_of_get hy)
  · refine ⟨(h.1 i x hxi).1, fun hm => ?_⟩
    obtain ⟨j, hj, hy⟩ := take_mem hm
    rcases old hy with ⟨rfl, rfl⟩ | ⟨_, hy⟩
    · exact hn (mem_of_get hxi)
    · have := chart_inj h hxi hy
      omega
/-- A move that fits is taken back by its turn. -/
theorem move_back {l : List Sp} {p b1 b2 a1 a2 : Int} (h : ChartP l) (hf : FitP l p b1 b2 a1 a2) (hne : ¬(b1 = a1 ∧ b2 = a2)) : moveF (l.set p.toNat (a1, a2)) p a1 a2 b1 b2 = (l, true) := by
  obtain ⟨h0, h1, h2⟩ := hf
  have hl := (List.getElem?_eq_some_iff.1 h1).1
  have hf2 : FitP (l.set p.toNat (a1, a2)) p a1 a2 b1 b2 := by
    refine ⟨h0, List.getElem?_set_self hl, fun hm => ?_⟩
    obtain ⟨j, hj⟩ := List.getElem?_of_mem hm
    by_cases hjp : j = p.toNat
    · subst hjp
      rw [List.getElem?_set_self hl] at hj
      simp only [Option.some.injEq, Prod.mk.injEq] at hj
      exact hne ⟨hj.1.symm, hj.2.symm⟩
    · rw [List.getElem?_set_ne (fun e => hjp e.symm)] at hj
      exact hjp (chart_inj h hj h1)
  unfold moveF
  rw [if_pos hf2, List.set_set]
  congr 1
  apply List.ext_getElem?
  intro j
  by_cases hjp : j = p.toNat
  · subst hjp
    rw [List.getElem?_set_self hl, h1]
  · rw [List.getElem?_set_ne (fun e => hjp e.symm)]
theorem edit_spots {e p b1 b2 a1 a2 : Int} (h : EditP e p b1 b2 a1 a2) : SpotP b1 b2 ∧ SpotP a1 a2 ∧ ¬(b1 = a1 ∧ b2 = a2) := ⟨h.2.2.1.1, h.2.2.1.2, h.2.2.2⟩
/-- An edit that was applied is undone. -/
theorem apply_facts {l al : List Sp} {e p b1 b2 a1 a2 : Int} (h : applyF l e p b1 b2 a1 a2 = (al, true)) : undoF al e p b1 b2 a1 a2 = (l, true) ∧ ChartP al ∧ EditP e p b1 b2 a1 a2 := by
  unfold applyF at h
  split at h
  · rename_i hp
    obtain ⟨hc, he⟩ := hp
    unfold moveF at h
    split at h
    · rename_i hf
      obtain rfl : l.set p.toNat (a1, a2) = al := (Prod.mk.inj h).1
      obtain ⟨s1, s2, s3⟩ := edit_spots he
      have hc2 := chart_set (p := p.toNat) hc (a := (a1, a2)) s2 hf.2.2
      refine ⟨?_, hc2, he⟩
      unfold undoF
      rw [if_pos ⟨hc2, he⟩]
      exact move_back hc hf s3
    · cases h
  · cases h
abbrev fitE (c : List Sp) (x : Ed) : Prop := FitP c x.2.1 x.2.2.1 x.2.2.2.1 x.2.2.2.2.1 x.2.2.2.2.2
abbrev doE (c : List Sp) (x : Ed) : List Sp := c.set x.2.1.toNat (x.2.2.2.2.1, x.2.2.2.2.2)
abbrev okE (x : Ed) : Prop := EditP x.1 x.2.1 x.2.2.1 x.2.2.2.1 x.2.2.2.2.1 x.2.2.2.2.2
/-- The chart after k edits. -/
def after : List Sp → List Ed → Nat → List Sp
  | c, _, 0 => c
  | c, [], _ + 1 => c
  | c, x :: r, k + 1 => after (doE c x) r k
theorem run_all : ∀ (es : List Ed) (c : List Sp) (n : Nat), ChartP c → (∀ x ∈ es, okE x) → ∃ m, m ≤ es.length ∧ runF c es n = (after c es m, n + m) ∧
    (∀ k, k ≤ m → runF c (es.take k) n = (after c es k, n + k) ∧ ChartP (after c es k) ∧ ∀ q, runF (after c es k) ((es.take m).drop k) q = (after c es m, q + (m - k))) ∧
    (∀ k, k < m → ∃ x, es[k]? = some x ∧ fitE (after c es k) x ∧ after c es (k + 1) = doE (after c es k) x)
  | [], c, n, hc, _ => ⟨0, Nat.le_refl _, rfl, fun k hk => by
      obtain rfl : k = 0 := by omega
      exact ⟨rfl, hc, fun q => rfl⟩, fun k hk => by omega⟩
  | x :: r, c, n, hc, he => by
    have hx := he x (by simp)
    by_cases hf : fitE c x
    · obtain ⟨s1, s2, s3⟩ := edit_spots hx
      have hc2 : ChartP (doE c x) := chart_set (p := x.2.1.toNat) hc (a := (x.2.2.2.2.1, x.2.2.2.2.2)) s2 hf.2.2
      obtain ⟨m, h1, h2, h3, h4⟩ := run_all r (doE c x) (n + 1) hc2 (fun y hy => he y (by simp [hy]))
      refine ⟨m + 1, by simp; omega, ?_, fun k hk => ?_, fun k hk => ?_⟩
      · rw [runF_yes hf, h2]
        show _ = (after (doE c x) r m, _)
        congr 1
        omega
      · cases k with
        | zero =>
          refine ⟨rfl, hc, fun q => ?_⟩
          obtain ⟨a1, _, a3⟩ := h3 0 (Nat.zero_le _)
          obtain ⟨m', hm1, hm2, hm3, _⟩ := run_all r (doE c x) (q + 1) hc2 (fun y hy => he y (by simp [hy]))
          show runF c (x :: r.take m) q = (after (doE c x) r m, _)
          rw [runF_yes hf]
          have := a3 (q + 1)
          simp only [List.drop_zero, Nat.sub_zero] at this
          rw [show after (doE c x) r 0 = doE c x by cases r <;> rfl] at this
          rw [this]
          congr 1
          omega
        | succ k =>
          obtain ⟨a1, a2, a3⟩ := h3 k (by omega)
          refine ⟨?_, a2, fun q => ?_⟩
          · show runF c (x :: r.take k) n = (after (doE c x) r k, _)
            rw [runF_yes hf, a1]
            congr 1
            omega
          · show runF (after (doE c x) r k) ((r.take m).drop k) q = (after (doE c x) r m, _)
            rw [a3 q]
            congr 1
            omega
      · cases k with
        | zero => exact ⟨x, rfl, hf, by show after (doE c x) r 0 = _; cases r <;> rfl⟩
        | succ k =>
          obtain ⟨y, hy1, hy2, hy3⟩ := h4 k (by omega)
          exact ⟨y, hy1, hy2, hy3⟩
    · refine ⟨0, Nat.zero_le _, by rw [runF_no hf]; rfl, fun k hk => ?_, fun k hk => by omega⟩
      obtain rfl : k = 0 := by omega
      exact ⟨rfl, hc, fun q => rfl⟩
theorem editsP_take {es : List Ed} (h : EditsP es) (k : Nat) : EditsP (es.take k) := ⟨fun x hx => h.1 x (List.mem_of_mem_take hx), by have := h.2; rw [List.length_take]; omega⟩
theorem editsP_drop {es : List Ed} (h : EditsP es) (k : Nat) : EditsP (es.drop k) := ⟨fun x hx => h.1 x (List.mem_of_mem_drop hx), by have := h.2; rw [List.length_drop]; omega⟩
theorem applyEditsF_good {l : List Sp} {es : List Ed} (hc : ChartP l) (he : EditsP es) : applyEditsF l es = ((runF l es 0).1, ((runF l es 0).2 : Int), true) := by unfold applyEditsF; rw [if_pos ⟨hc, he⟩]
/-- What running edits comes to. -/
theorem runs_facts {u r : List Sp} {es : List Ed} {d : Int} (h : applyEditsF u es = (r, d, true)) : ∃ m : Nat, d = m ∧ m ≤ es.length ∧ EditsP es ∧ r = after u es m ∧ after u es 0 = u ∧
    (∀ k, k ≤ m → ChartP (after u es k) ∧ applyEditsF u (es.take k) = (after u es k, (k : Int), true) ∧ applyEditsF (after u es k) ((es.take m).drop k) = (after u es m, ((m - k : Nat) : Int), true)) ∧
    (∀ k, k < m → ∃ x, es[k]? = some x ∧ undoF (after u es (k + 1)) x.1 x.2.1 x.2.2.1 x.2.2.2.1 x.2.2.2.2.1 x.2.2.2.2.2 = (after u es k, true)) := by
  unfold applyEditsF at h
  split at h
  · rename_i hp
    obtain ⟨hc, he⟩ := hp
    obtain ⟨m, h1, h2, h3, h4⟩ := run_all es u 0 hc he.1
    rw [h2, Nat.zero_add] at h
    obtain ⟨rfl, hd⟩ := Prod.mk.inj h
    obtain ⟨rfl, _⟩ := Prod.mk.inj hd
    refine ⟨m, rfl, h1, he, rfl, by cases es <;> rfl, fun k hk => ?_, fun k hk => ?_⟩
    · obtain ⟨a1, a2, a3⟩ := h3 k hk
      refine ⟨a2, ?_, ?_⟩
      · rw [applyEditsF_good hc (editsP_take he k), a1, Nat.zero_add]
      · rw [applyEditsF_good a2 (editsP_drop (editsP_take he m) k), a3 0, Nat.zero_add]
    · obtain ⟨x, hx, hf, ha⟩ := h4 k hk
      have hok := he.1 x (mem_of_get hx)
      obtain ⟨s1, s2, s3⟩ := edit_spots hok
      refine ⟨x, hx, ?_⟩
      unfold undoF
      rw [if_pos ⟨(h3 (k + 1) (by omega)).2.1, hok⟩, ha]
      exact move_back (h3 k (by omega)).2.1 hf s3
  · cases h
/-! ### Between two charts -/
theorem diffs_none {now b : List Sp} (hl : now.length = b.length) (h : diffs now b = []) : now = b := by
  apply List.ext_getElem?
  intro i
  by_cases hi : i < now.length
  · by_cases he : now[i]? = b[i]?
    · exact he
    · have : i ∈ diffs now b := mem_diffTo.2 ⟨hi, he⟩
      rw [h] at this
      simp at this
  · rw [List.getElem?_eq_none (by omega), List.getElem?_eq_none (by omega)]
theorem bet_run {ed : Int} (hed : 1 ≤ ed ∧ ed ≤ 9) {b : List Sp} (hb : ChartP b) : ∀ (n : Nat) (now : List Sp) (acc r : List Ed), ChartP now → now.length = b.length → btGo ed b n now acc = some r →
    ∃ s, r = acc ++ s ∧ (∀ q, runF now s q = (b, q + s.length)) ∧ (∀ x ∈ s, okE x ∧ x.1 = ed) ∧ (∀ i : Nat, i ∈ diffs now b ↔ ∃ x ∈ s, x.2.1 = (i : Int)) ∧ s.length = (diffs now b).length := by
  intro n
  induction n with
  | zero =>
    intro now acc r hn hl h
    by_cases hd : diffs now b = []
    · rw [btGo_end 0 hd] at h
      cases h
      refine ⟨[], by simp, fun q => by rw [← diffs_none hl hd]; rfl, fun x hx => by simp at hx, fun i => by rw [hd]; simp, by rw [hd]; rfl⟩
    · unfold btGo at h
      rw [if_neg hd] at h
      cases h
  | succ n ih =>
    intro now acc r hn hl h
    by_cases hd : diffs now b = []
    · rw [btGo_end (n + 1) hd] at h
      cases h
      refine ⟨[], by simp, fun q => by rw [← diffs_none hl hd]; rfl, fun x hx => by simp at hx, fun i => by rw [hd]; simp, by rw [hd]; rfl⟩
    · cases hf : (diffs now b).find? (free now b) with
      | none => rw [btGo_no (n + 1) hd hf] at h; cases h
      | some i =>
        have him := List.mem_of_find?_eq_some hf
        obtain ⟨hil, hine⟩ := mem_diffTo.1 him
        obtain ⟨x, hx⟩ := get_of_lt hil
        obtain ⟨y, hy⟩ := get_of_lt (show i < b.length by omega)
        have hfree := List.find?_some hf
        rw [free_at hy] at hfree
        have hyn : y ∉ now := of_decide_eq_true hfree
        have hst : btGo ed b (n + 1) now acc = btGo ed b n (now.set i y) (acc ++ [(ed, (i : Int), x.1, x.2, y.1, y.2)]) := by
          rw [btGo, if_neg hd, hf]
          show btGo ed b n (stepB now b i) (acc ++ [mkE ed now b i]) = _
          rw [stepB_at hy, mkE_at hx hy]
        rw [hst] at h
        have hsy := (hb.1 i y hy).1
        have hsx := (hn.1 i x hx).1
        obtain ⟨s, rfl, h2, h3, h4, h5⟩ := ih (now.set i y) _ r (chart_set (p := i) hn hsy hyn) (by simpa using hl) h
        have hxy : x ≠ y := fun e => hyn (e ▸ mem_of_get hx)
        have hin : i ∉ diffs (now.set i y) b := fun hm => by
          have := (mem_diffTo.1 hm).2
          rw [List.getElem?_set_self hil, hy] at this
          exact this rfl
        have hot : ∀ j, j ≠ i → (j ∈ diffs (now.set i y) b ↔ j ∈ diffs now b) := fun j hj => by
          unfold diffs
          rw [mem_diffTo, mem_diffTo, List.length_set, List.getElem?_set_ne (fun e => hj e.symm)]
        refine ⟨(ed, (i : Int), x.1, x.2, y.1, y.2) :: s, by simp, fun q => ?_, fun z hz => ?_, fun j => ?_, ?_⟩
        · rw [runF_yes (show fitE now (ed, (i : Int), x.1, x.2, y.1, y.2) from ⟨by dsimp only; omega, by dsimp only; rw [Int.toNat_natCast]; exact hx, hyn⟩)]
          show runF (now.set (i : Int).toNat (y.1, y.2)) s (q + 1) = _
          rw [Int.toNat_natCast, h2 (q + 1)]
          congr 1
          simp
          omega
        · rcases List.mem_cons.1 hz with rfl | hz
          · refine ⟨⟨hed, ⟨by dsimp only; omega, by dsimp only; have := hn.2; omega⟩, ⟨hsx, hsy⟩, fun e => hxy (Prod.ext e.1 e.2)⟩, rfl⟩
          · exact h3 z hz
        · by_cases hj : j = i
          · subst hj
            exact ⟨fun _ => ⟨_, List.mem_cons_self .., rfl⟩, fun _ => him⟩
          · rw [← hot j hj, h4 j]
            constructor
            · rintro ⟨z, hz, e⟩; exact ⟨z, List.mem_cons_of_mem _ hz, e⟩
            · rintro ⟨z, hz, e⟩
              rcases List.mem_cons.1 hz with rfl | hz
              · exact absurd (Int.ofNat.inj e).symm hj
              · exact ⟨z, hz, e⟩
        · have hnd := diffTo_nodup now b now.length
          obtain ⟨k, hk⟩ := List.getElem?_of_mem him
          have hds := diffs_step hk hy
          have hkl := (List.getElem?_eq_some_iff.1 hk).1
          rw [List.length_cons, h5, hds, List.length_append, List.length_take, List.length_drop]
          omega
/-- Edits between two charts lead from one to the other, and touch those who changed. -/
theorem bet_facts {x y : List Sp} {ed : Int} {es : List Ed} (h : betF x y ed = (es, true)) : PairP x y ∧ applyEditsF x es = (y, (es.length : Int), true) ∧ touchF es ed = (nI (diffs x y), true) ∧ es.length = (diffs x y).length := by
  by_cases hP : PairP x y ∧ InR ed 1 9
  · cases hr : btGo ed y (diffs x y).length x [] with
    | none => rw [betF_none hP hr] at h; cases h
    | some r =>
      rw [betF_some hP hr] at h
      obtain rfl : r = es := (Prod.mk.inj h).1
      obtain ⟨s, hs, h2, h3, h4, h5⟩ := bet_run (ed := ed) hP.2 hP.1.1.2 _ x [] r hP.1.1.1 hP.1.2 hr
      rw [List.nil_append] at hs
      subst hs
      have h12 := diffTo_len x y x.length
      have hx12 := hP.1.1.1.2.2
      have hE : EditsP r := ⟨fun z hz => (h3 z hz).1, by rw [h5]; show (diffTo x y x.length).length ≤ 30; omega⟩
      refine ⟨hP.1, ?_, ?_, h5⟩
      · rw [applyEditsF_good hP.1.1.1 hE, h2 0, Nat.zero_add]
      · rw [touchF_good ⟨hE, hP.2⟩]
        congr 1
        refine sorted_same (tchTo_sorted r ed 12) ?_ (fun z => ?_)
        · unfold nI diffs diffTo
          rw [List.pairwise_map]
          refine List.Pairwise.filter _ ?_
          have := List.pairwise_lt_range (n := x.length)
          exact this.imp (fun hab => by omega)
        · rw [mem_tchTo]
          constructor
          · rintro ⟨⟨hz0, hz1⟩, e, he, e1, e2⟩
            refine List.mem_map.2 ⟨z.toNat, (h4 z.toNat).2 ⟨e, he, by omega⟩, by omega⟩
          · intro hz
            obtain ⟨i, hi, rfl⟩ := List.mem_map.1 hz
            obtain ⟨e, he, e2⟩ := (h4 i).1 hi
            have hil := (mem_diffTo.1 hi).1
            exact ⟨⟨by omega, by omega⟩, e, he, (h3 e he).2, e2⟩
  · rw [betF_bad hP] at h
    cases h
end Go.Proofs.Ytoofpajeogllhaa
