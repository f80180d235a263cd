/-
  Words and lemmas of this proof that speak of no program: worlds that only grow, calls that answer a bool, arguments opened to plain data, lists of structs in memory.
-/
import Derived.WalkKit
import Derived.WalkSpells
import Derived.WalkLawsBesides
import Derived.ProofKit
import Derived.OpenShut
import Derived.SizedLaws
import Derived.Deep.Slices
import Derived.Deep.QuietTactic
import Derived.BigQuiet
import Derived.Lib.Hide
namespace Go.Proofs.Ytphfaeefjcdjjaa
open Go.RowKit Go.ChangeShapes Go.WideShapes

abbrev InR (n lo hi : Int) : Prop := lo ≤ n ∧ n ≤ hi

theorem ret_int {k : IntKind} {a b : Int} (h : a = b) : Ending.returned (.int k a) = .returned (.int k b) := by rw [h]
theorem ret_ib {k : IntKind} {f : Int × Bool} {a : Int} {b : Bool} (h : f = (a, b)) : Ending.returned (.tuple #[.int k a, .bool b]) = .returned (.tuple #[.int k f.1, .bool f.2]) := by rw [h]
theorem ret_iib {k : IntKind} {f : Int × Int × Bool} {a c : Int} {b : Bool} (h : f = (a, c, b)) : Ending.returned (.tuple #[.int k a, .int k c, .bool b]) = .returned (.tuple #[.int k f.1, .int k f.2.1, .bool f.2.2]) := by rw [h]
theorem ret_ii {k : IntKind} {f : Int × Int} {a b : Int} (h : f = (a, b)) : Ending.returned (.tuple #[.int k a, .int k b]) = .returned (.tuple #[.int k f.1, .int k f.2]) := by rw [h]

/-- The world w' is w with new blocks. -/
def Gw (w w' : World) : Prop := Below w.heap.size w w'
theorem Gw.below {w w' : World} (h : Gw w w') : Below w.heap.size w w' := h
theorem Gw.refl (w : World) : Gw w w := Below.refl _ _
theorem Gw.size {w w' : World} (h : Gw w w') : w.heap.size ≤ w'.heap.size := Below.size h
theorem Gw.trans {a b c : World} (h : Gw a b) (k : Gw b c) : Gw a c := Below.trans h (Below.mono k h.size)
theorem Gw.alloc {a b : World} (h : Gw a b) (o : Obj) : Gw a (b.alloc o) := Below.alloc h h.size o
theorem Gw.drew {a b : World} (h : Gw a b) : Gw a b.drew := Below.drew h
theorem Gw.drewN {a b : World} (h : Gw a b) (n : Nat) : Gw a (b.drewN n) := by
  have h : Below a.heap.size a b := h
  exact ⟨h.os, h.tape, h.output, h.size, h.block⟩
theorem Gw.set {a b : World} (h : Gw a b) {p : Addr} (hp : a.heap.size ≤ p.block) (u : Value) : Gw a (b.setCell p u) := Below.setCell h hp u
theorem Gw.grown {a b c : World} {row : Option Nat} (h : Gw a b) (hg : b.grownBy c row) (hr : ∀ k, row = some k → a.heap.size ≤ k) : Gw a c := Below.grown h hg h.size hr
theorem Gw.cells {W w1 : World} (hb : Gw W w1) : ∀ b o, b < W.heap.size → w1.cell? ⟨b, o, none⟩ = W.cell? ⟨b, o, none⟩ := fun b o h => Below.cell hb (p := ⟨b, o, none⟩) h
theorem Gw.frozens {W w1 : World} (hb : Gw W w1) : ∀ b o, b < W.heap.size → w1.frozen? ⟨b, o, none⟩ = W.frozen? ⟨b, o, none⟩ := fun b o h => Below.frozen hb (p := ⟨b, o, none⟩) h
theorem Gw.heap {W w1 : World} (hb : Gw W w1) {k : Nat} (h : k < W.heap.size) : w1.heap[k]? = W.heap[k]? := Below.block hb k h
theorem Gw.by_ {W w1 : World} (hb : Gw W w1) (row : Option Nat) : W.grownBy w1 row := by
  have hb : Below W.heap.size W w1 := hb
  exact ⟨hb.os, hb.tape, hb.output, hb.size, fun k hk _ => hb.block k hk⟩

/-- A call that answers whether p holds, and leaves the world alone / makes blocks only. -/
def TellsQ (p : Prop) (w : World) (e : Ending) (w' : World) : Prop := (p ∧ e = .returned (.bool true) ∧ w = w') ∨ (¬p ∧ e = .returned (.bool false) ∧ w = w')
def Tells (p : Prop) (w : World) (e : Ending) (w' : World) : Prop := (p ∧ e = .returned (.bool true) ∧ Gw w w') ∨ (¬p ∧ e = .returned (.bool false) ∧ Gw w w')
theorem tellsQ_of {p : Prop} {b : Bool} {w : World} (h : b = true ↔ p) : TellsQ p w (.returned (.bool b)) w := by
  cases b with
  | true => exact .inl ⟨h.1 rfl, rfl, rfl⟩
  | false => exact .inr ⟨fun hp => by simp at h; exact h hp, rfl, rfl⟩
theorem tells_of {p : Prop} {b : Bool} {w w' : World} (h : b = true ↔ p) (hg : Gw w w') : Tells p w (.returned (.bool b)) w' := by
  cases b with
  | true => exact .inl ⟨h.1 rfl, rfl, hg⟩
  | false => exact .inr ⟨fun hp => by simp at h; exact h hp, rfl, hg⟩

/-- A world that is w with new blocks; the class of such worlds, in which a region that draws its order may be walked once. -/
structure GwOf (w : World) where
  world : World
  gw : Gw w world
instance (w : World) : Nonempty (GwOf w) := ⟨⟨w, Gw.refl w⟩⟩
theorem GwOf.cell {w : World} (n : GwOf w) (b o : Nat) (h : b < w.heap.size) : n.world.cell? ⟨b, o, none⟩ = w.cell? ⟨b, o, none⟩ := n.gw.cells b o h
theorem GwOf.call {P : Program} {f : FuncId} {args : Array Value} {w : World} {n : GwOf w} {v : Value} (h : Calls P f args n.world fun e w' => e = .returned v ∧ Gw n.world w') :
    Calls P f args n.world fun e w'' => e = .returned v ∧ ∃ m : GwOf w, w'' = m.world :=
  h.mono fun _ w'' ⟨he, hg⟩ => ⟨he, ⟨w'', n.gw.trans hg⟩, rfl⟩
theorem GwOf.callq {P : Program} {f : FuncId} {args : Array Value} {w : World} {n : GwOf w} {v : Value} (h : Calls P f args n.world fun e w' => e = .returned v ∧ n.world = w') :
    Calls P f args n.world fun e w'' => e = .returned v ∧ ∃ m : GwOf w, w'' = m.world :=
  h.mono fun _ _ ⟨he, hg⟩ => ⟨he, n, hg.symm⟩
theorem GwOf.callb {P : Program} {f : FuncId} {args : Array Value} {w : World} {n : GwOf w} {p : Prop} [Decidable p] (h : Calls P f args n.world (Tells p n.world)) :
    Calls P f args n.world fun e w'' => e = .returned (.bool (decide p)) ∧ ∃ m : GwOf w, w'' = m.world :=
  h.mono fun _ w'' hh => by
    rcases hh with ⟨hp, he, hg⟩ | ⟨hp, he, hg⟩
    · exact ⟨by rw [he, decide_eq_true hp], ⟨w'', n.gw.trans hg⟩, rfl⟩
    · exact ⟨by rw [he, decide_eq_false hp], ⟨w'', n.gw.trans hg⟩, rfl⟩
theorem GwOf.callc {P : Program} {f : FuncId} {args : Array Value} {w : World} {n : GwOf w} {p : Prop} [Decidable p] (h : Calls P f args n.world (TellsQ p n.world)) :
    Calls P f args n.world fun e w'' => e = .returned (.bool (decide p)) ∧ ∃ m : GwOf w, w'' = m.world :=
  h.mono fun _ _ hh => by
    rcases hh with ⟨hp, he, hg⟩ | ⟨hp, he, hg⟩
    · exact ⟨by rw [he, decide_eq_true hp], n, hg.symm⟩
    · exact ⟨by rw [he, decide_eq_false hp], n, hg.symm⟩
theorem GwOf.callT {P : Program} {f : FuncId} {args : Array Value} {w : World} {n : GwOf w} {p : Prop} (hp : p) (h : Calls P f args n.world (Tells p n.world)) :
    Calls P f args n.world fun e w'' => e = .returned (.bool true) ∧ ∃ m : GwOf w, w'' = m.world :=
  h.mono fun _ w'' hh => by
    rcases hh with ⟨_, he, hg⟩ | ⟨hn, _, _⟩
    · exact ⟨he, ⟨w'', n.gw.trans hg⟩, rfl⟩
    · exact absurd hp hn
theorem GwOf.callF {P : Program} {f : FuncId} {args : Array Value} {w : World} {n : GwOf w} {p : Prop} (hp : ¬p) (h : Calls P f args n.world (Tells p n.world)) :
    Calls P f args n.world fun e w'' => e = .returned (.bool false) ∧ ∃ m : GwOf w, w'' = m.world :=
  h.mono fun _ w'' hh => by
    rcases hh with ⟨hn, _, _⟩ | ⟨_, he, hg⟩
    · exact absurd hn hp
    · exact ⟨he, ⟨w'', n.gw.trans hg⟩, rfl⟩
/-- A region that draws its order, whose operations read what was there and whose callees only make blocks: one walk of the text's order serves every order. -/
theorem wp_region_gw {P : Program} {id : Nat} {Q : Exit → Act → World → Prop} {a : Act} {w : World} {l : List Oper} (hm : P.follows .mixedOrders = true) (hB : Region.lexB .any l.toArray = true)
    (h : wpQuiet P l.toArray (fun w' => ∃ n : GwOf w, w' = n.world) (fun a' => ∀ w', (∃ n : GwOf w, w' = n.world) → Q .normal a' w') l a) : (Code.region id l.toArray true).wp P Q a w :=
  wp_region_quiet (C := fun w' => ∃ n : GwOf w, w' = n.world) hm hB ⟨⟨_, Gw.drew (Gw.refl w)⟩, rfl⟩ (by simpa using h)

theorem if_pos_of {c : Prop} [Decidable c] {a b : Prop} (h : c) (ha : a) : if c then a else b := by rw [if_pos h]; exact ha
theorem if_neg_of {c : Prop} [Decidable c] {a b : Prop} (h : ¬c) (hb : b) : if c then a else b := by rw [if_neg h]; exact hb

/-! ### Plain data: a type whose cells are integers, strings and bools -/
inductive FK where
  | int (k : IntKind)
  | str
  | bool
def FK.fit : FK → Value → Prop
  | .int k, v => ∃ n, v = .int k n ∧ (Lit.int k n).wf = true
  | .str, v => ∃ s : ByteArray, v = .string s ∧ s.size ≤ maxLen
  | .bool, v => ∃ b, v = .bool b
def Fits : List FK → List Value → Prop
  | [], [] => True
  | k :: ks, v :: vs => k.fit v ∧ Fits ks vs
  | _, _ => False
theorem Fits.append : ∀ {ks : List FK} {vs : List Value} {ks' : List FK} {vs' : List Value}, Fits ks vs → Fits ks' vs' → Fits (ks ++ ks') (vs ++ vs')
  | [], [], _, _, _, h => h
  | _ :: _, _ :: _, _, _, h, h' => ⟨h.1, Fits.append h.2 h'⟩
theorem Fits.length : ∀ {ks : List FK} {vs : List Value}, Fits ks vs → vs.length = ks.length
  | [], [], _ => rfl
  | _ :: _, _ :: _, h => by simp [Fits.length h.2]
theorem Fits.nil {vs : List Value} (h : Fits [] vs) : vs = [] := by cases vs with | nil => rfl | cons _ _ => exact h.elim
theorem Fits.cons {k : FK} {ks : List FK} {vs : List Value} (h : Fits (k :: ks) vs) : ∃ v vs', vs = v :: vs' ∧ k.fit v ∧ Fits ks vs' := by
  cases vs with
  | nil => exact h.elim
  | cons v vs' => exact ⟨v, vs', rfl, h.1, h.2⟩

section
variable (P : Program)
def flatFs (f : TypeId → Option (List FK)) (C : Nat) : List Field → Nat → Option (List FK)
  | [], o => if o = C then some [] else none
  | fd :: fs, o =>
    if fd.offset = o then
      match f fd.type with
      | some a => if P.cellsOf fd.type = a.length then (flatFs f C fs (o + a.length)).map (a ++ ·) else none
      | none => none
    else none
def flatK : Nat → TypeId → Option (List FK)
  | 0, _ => none
  | n + 1, t =>
    match P.underlying t with
    | some (.int k) => some [.int k]
    | some .string => some [.str]
    | some .bool => some [.bool]
    | some (.struct fs) => flatFs P (flatK n) (P.cellsOf t) fs.toList 0
    | _ => none
end

section
variable {H : Type} {enc : TypeId × Value → H} {P : Program} {w : World} {base : Nat} {spare : Nat → Bool} {held : Bool}

theorem flatFs_fits {f : TypeId → Option (List FK)} {m : Nat} {cs : List Value} {C : Nat}
    (hf : ∀ t ks cs' y, f t = some ks → DataW.trod enc P w base spare held m t cs' = some y → Fits ks cs') (hl : cs.length = C) :
    ∀ (fs : List Field) (o : Nat) (ks : List FK), flatFs P f C fs o = some ks →
      (∀ fd ∈ fs, ∃ y, DataW.trod enc P w base spare held m fd.type ((cs.drop fd.offset).take (P.cellsOf fd.type)) = some y) → Fits ks (cs.drop o) := by
  intro fs
  induction fs with
  | nil =>
    intro o ks h _
    unfold flatFs at h
    split at h
    · cases h
      rw [List.drop_of_length_le (by omega)]
      trivial
    · cases h
  | cons fd fs ih =>
    intro o ks h hy
    unfold flatFs at h
    split at h
    · rename_i ho
      split at h
      · rename_i a ha
        split at h
        · rename_i hc
          cases hr : flatFs P f C fs (o + a.length) with
          | none => rw [hr] at h; cases h
          | some r =>
            rw [hr] at h
            cases h
            obtain ⟨y, hyy⟩ := hy fd (List.mem_cons_self ..)
            have h1 := hf _ _ _ _ ha hyy
            have h2 := ih _ _ hr (fun x hx => hy x (List.mem_cons_of_mem _ hx))
            rw [ho, hc] at h1
            have e : cs.drop o = (cs.drop o).take a.length ++ cs.drop (o + a.length) := by
              rw [← List.drop_drop, List.take_append_drop]
            rw [e]
            exact h1.append h2
        · cases h
      · cases h
    · cases h

theorem flatK_fits : ∀ (n : Nat) (m : Nat) (t : TypeId) (ks : List FK) (cs : List Value) (y : DataW H × List MemPlace), flatK P n t = some ks → DataW.trod enc P w base spare held m t cs = some y → Fits ks cs := by
  intro n
  induction n with
  | zero => intro m t ks cs y h; cases h
  | succ n ih =>
    intro m t ks cs y h ht
    unfold flatK at h
    split at h
    · rename_i k hk
      cases h
      obtain ⟨x, rfl, _, hx⟩ := DataW.trod_int hk ht
      exact ⟨⟨x, rfl, hx⟩, trivial⟩
    · rename_i hk
      cases h
      obtain ⟨x, rfl, _, hx⟩ := DataW.trod_string hk ht
      exact ⟨⟨x, rfl, hx⟩, trivial⟩
    · rename_i hk
      cases h
      obtain ⟨x, rfl, _⟩ := DataW.trod_bool hk ht
      exact ⟨⟨x, rfl⟩, trivial⟩
    · rename_i fs hk
      obtain ⟨xs, n', _, _, hlen, hxs, hi⟩ := DataW.trod_struct hk ht
      have := flatFs_fits (enc := enc) (P := P) (w := w) (base := base) (spare := spare) (held := held) (m := n') (cs := cs) (fun t ks cs' y a b => ih n' t ks cs' y a b) hlen fs.toList 0 ks h (by
        intro fd hfd
        obtain ⟨i, hi1, hi2⟩ := List.getElem_of_mem hfd
        have hi1' : i < fs.size := by simpa using hi1
        have e : fs[i]? = some fd := by rw [Array.getElem?_eq_getElem hi1']; simpa using hi2
        have := hi i fd e
        rw [this, List.getElem?_eq_getElem (by omega)]
        exact ⟨_, rfl⟩)
      simpa using this
    · cases h

/-- A struct of plain data by value. -/
theorem open_flat {r : Reach} {b0 : Nat} {t : TypeId} {fs : Array Field} {n : Nat} {ks : List FK} {v : Value} {d : DataW H} {p : List MemPlace}
    (hs : P.underlying t = some (.struct fs)) (hk : flatK P n t = some ks) (hv : Value.okWide P w r b0 t v) (h : DataW.Trod enc P w base spare held t v d p) :
    ∃ cs : List Value, v = .agg ⟨cs⟩ ∧ Fits ks cs := by
  obtain ⟨cs, rfl, _⟩ := okWide_struct hs hv
  obtain ⟨fuel, hf⟩ := h
  obtain ⟨l⟩ := cs
  exact ⟨l, rfl, flatK_fits _ _ _ _ _ _ hk (by simpa [Value.cells] using hf)⟩
end

theorem trodAll_stays {H : Type} {enc : TypeId × Value → H} {P : Program} (hl : laidOutB P = true) {W W' : World} {sp' : Nat → Bool} : ∀ {ts : List TypeId} {vs : List Value} {ds : List (DataW H)} {ps : List MemPlace},
    (∀ t ∈ ts, P.readableRec t = true ∧ t < P.types.size) → DataW.TrodAll enc P W 0 (fun _ => true) true ts vs ds ps → (∀ p ∈ ps, W.sameAt W' p) → (∀ p ∈ ps, sp' p.block = true) → DataW.TrodAll enc P W' 0 sp' true ts vs ds ps
  | [], [], [], _, _, h, _, _ => h
  | _ :: _, _ :: _, _ :: _, _, ht, ⟨p, q, h1, h2, e⟩, hs, hp => by
    subst e
    refine ⟨p, q, ?_, ?_, rfl⟩
    · exact WideElems.Trod_stays hl (ht _ (List.mem_cons_self ..)).1 (ht _ (List.mem_cons_self ..)).2 h1 (fun x hx => hs x (List.mem_append_left _ hx)) (fun x hx => hp x (List.mem_append_left _ hx))
    · exact trodAll_stays hl (fun t h => ht t (List.mem_cons_of_mem _ h)) h2 (fun x hx => hs x (List.mem_append_right _ hx)) (fun x hx => hp x (List.mem_append_right _ hx))

section
variable {H : Type} {enc : TypeId × Value → H} {P : Program}
/-- The last step of a law's row: it returned true, the world only grew, no variable is named. -/
theorem post_law {f : Func} {s : ChangeSpec} {apart fresh : Bool} {W W' : World} {args : Array Value} {ds : List (DataW H)} {before : List MemPlace}
    (hl : laidOutB P = true) (hts : ∀ t ∈ f.params.toList, P.readableRec t = true ∧ t < P.types.size) {tb : TypeId} (hrt : f.resultTypes = #[tb]) (hbool : P.underlying tb = some .bool) (hvars0 : s.vars = [])
    (hspec : (s.fn H (ds ++ [])).results = [.lit (.bool true)] ∧ (s.fn H (ds ++ [])).args = ds ∧ (s.fn H (ds ++ [])).vars = [])
    (hW : DataW.Whole enc P f.params.toList s.vars apart W args.toList ds [] before) (hb : Gw W W') :
    s.post enc P f apart fresh false false W args (.bool true) W' := by
  have hlt : ∀ p ∈ before, p.block < W.heap.size := fun p hp => hW.lt p hp
  have hW0 := hW
  obtain ⟨p, q, hA, hV, rfl, _, _⟩ := hW0
  rw [hvars0] at hV
  have hq : q = [] := hV
  subst hq
  have hblk : Below W.heap.size W W' := hb
  refine ⟨ds, [], p ++ [], [], p, [], hW, ?_, ?_, ?_, World.keptBut_mono (fun x hx => ⟨hx, by simpa using hx⟩) (hblk.frame (· ∈ p ++ [])), fun h => by cases h⟩
  · rw [hrt, hspec.1]
    exact ⟨[], [], shut_bool hbool true, rfl, by simp⟩
  · rw [hspec.2.1]
    exact trodAll_stays hl hts hA (fun x hx => hblk.same (hlt x (by simpa using hx))) (fun x hx => by simpa using hlt x (by simpa using hx))
  · rw [hvars0, hspec.2.2]
    rfl
end

theorem plainTypes {P : Program} {ts : Array TypeId} (h : (ts.toList.all fun t => P.readableRec t && decide (t < P.types.size)) = true) : ∀ t ∈ ts.toList, P.readableRec t = true ∧ t < P.types.size := by
  intro t ht
  have := List.all_eq_true.1 h t ht
  simpa using this

end Go.Proofs.Ytphfaeefjcdjjaa
