/-
  strings.Builder and strconv.Itoa in this program: contracts of the library, laid.
-/
import Derived.Test.YtgbgmmdpldekbaaDoorShelf
import Derived.Shelf.Strings.BuilderK
import Derived.Laws.Concat
import Derived.Test.YtgbgmmdpldekbaaDoorKit
import Derived.Test.YtgbgmmdpldekbaaDoorBox
namespace Go.Proofs.YtgbgmmdpldekbaaDoor
open Go.RowKit Go.Shelf

def bren : Go.Shelf.Ren := ⟨fun | 166 => 54 | 169 => 56 | 240 => 90 | 276 => 98 | n => n, fun | 0 => 0 | 3 => 3 | 4 => 4 | 5 => 5 | 9 => 9 | 20 => 20 | 37 => 22 | 70 => 80 | 72 => 82 | 75 => 84 | 80 => 88 | 127 => 126 | 164 => 132 | n => n, fun | n => n⟩
theorem lays166 : Go.Proofs.Lays.n166 Tryd.prog bren := {
  mixed := by kernel_rfl
  f166 := Tryd.func54.trans (congrArg some (by kernel_rfl))
  f240 := Tryd.func90.trans (congrArg some (by kernel_rfl))
  f276 := Tryd.func98.trans (congrArg some (by kernel_rfl))
  t0 := Tryd.underlying0
  a0 := Tryd.isAgg0
  z0 := Tryd.sizeOf0
  v0 := Tryd.zeroValue0
  t3 := Tryd.underlying3
  a3 := Tryd.isAgg3
  z3 := Tryd.sizeOf3
  v3 := Tryd.zeroValue3
  t4 := Tryd.underlying4
  a4 := Tryd.isAgg4
  z4 := Tryd.sizeOf4
  v4 := Tryd.zeroValue4
  t9 := Tryd.underlying9
  a9 := Tryd.isAgg9
  z9 := Tryd.sizeOf9
  v9 := Tryd.zeroValue9
  t20 := Tryd.underlying20
  a20 := Tryd.isAgg20
  z20 := Tryd.sizeOf20
  v20 := Tryd.zeroValue20
  t37 := Tryd.underlying22
  a37 := Tryd.isAgg22
  z37 := Tryd.sizeOf22
  v37 := Tryd.zeroValue22
  t70 := Tryd.underlying80
  a70 := Tryd.isAgg80
  z70 := Tryd.sizeOf80
  v70 := Tryd.zeroValue80
  t72 := Tryd.underlying82
  a72 := Tryd.isAgg82
  z72 := Tryd.sizeOf82
  v72 := Tryd.zeroValue82
  t75 := Tryd.underlying84
  a75 := Tryd.isAgg84
  z75 := Tryd.sizeOf84
  v75 := Tryd.zeroValue84
  t164 := Tryd.underlying132
  a164 := Tryd.isAgg132
  z164 := Tryd.sizeOf132
  v164 := Tryd.zeroValue132 }
theorem lays169 : Go.Proofs.Lays.n169 Tryd.prog bren := {
  mixed := by kernel_rfl
  f169 := Tryd.func56.trans (congrArg some (by kernel_rfl))
  t0 := Tryd.underlying0
  a0 := Tryd.isAgg0
  z0 := Tryd.sizeOf0
  v0 := Tryd.zeroValue0
  t3 := Tryd.underlying3
  a3 := Tryd.isAgg3
  z3 := Tryd.sizeOf3
  v3 := Tryd.zeroValue3
  t9 := Tryd.underlying9
  a9 := Tryd.isAgg9
  z9 := Tryd.sizeOf9
  v9 := Tryd.zeroValue9
  t37 := Tryd.underlying22
  a37 := Tryd.isAgg22
  z37 := Tryd.sizeOf22
  v37 := Tryd.zeroValue22
  t70 := Tryd.underlying80
  a70 := Tryd.isAgg80
  z70 := Tryd.sizeOf80
  v70 := Tryd.zeroValue80
  t72 := Tryd.underlying82
  a72 := Tryd.isAgg82
  z72 := Tryd.sizeOf82
  v72 := Tryd.zeroValue82
  t127 := Tryd.underlying126
  a127 := Tryd.isAgg126
  z127 := Tryd.sizeOf126
  v127 := Tryd.zeroValue126 }
theorem bextra : Builder.Extra Tryd.prog bren := {
  sizeBuilder := by kernel_rfl
  liesBuilder := by kernel_rfl
  t5 := Tryd.underlying5
  a5 := Tryd.isAgg5
  z5 := Tryd.sizeOf5
  v5 := Tryd.zeroValue5
  infoByte := by kernel_rfl
  cellsByte := by kernel_rfl
  sizeByte := by kernel_rfl
  neB5 := by decide }

/-- A builder of the call's own. -/
def Bld (B b : Nat) (s : ByteArray) (w : World) : Prop := Lib.IsBuilderF 82 5 B b (Lib.byteCells s.data.toList) w
theorem Bld.new (w : World) {B : Nat} (hB : B ≤ w.heap.size) : Bld B w.heap.size ⟨#[]⟩ (w.alloc (.cells #[.pointer none, .slice none 0 0] 82)) :=
  Lib.IsBuilderF.of (Or.inl ⟨hB, .slice none 0 0, heap_alloc_new w _, World.ownsRow_nil _ _ _ _, by simp [Value.ownBlock]⟩)
theorem Bld.gw {B b : Nat} {s : ByteArray} {w w' : World} (h : Bld B b s w) (hg : Gw w w') : Bld B b s w' := by
  have key : ∀ p, Lib.BuilderAtF 82 5 B b p (Lib.byteCells s.data.toList) w → Lib.BuilderAtF 82 5 B b p (Lib.byteCells s.data.toList) w' := by
    intro p hp
    have hlt := hp.lt
    obtain ⟨h1, v, h2, h3, h4⟩ := hp
    exact ⟨h1, v, by rw [hg.heap hlt]; exact h2, h3.kept (row := none) (hg.by_ none) (by cases v.ownBlock <;> simp), h4⟩
  exact h.imp (key _) (key _)
theorem Bld.lt {B b : Nat} {s : ByteArray} {w : World} (h : Bld B b s w) : b < w.heap.size := h.elim (fun x => x.lt) (fun x => x.lt)
theorem BoxR.kept {w w' : World} {k b : Nat} {cs : Array Value} {t e : TypeId} (h : BoxR w k cs t) (ho : Lib.OthersKept e (some b) w w') (hne : k ≠ b) (ht : t ≠ e) : BoxR w' k cs t :=
  ho k _ h (fun e => hne (Option.some.inj e)) (fun c fz he => by cases he; exact ht rfl)
theorem b_WriteString (B b : Nat) (s x : ByteArray) (w : World) (h : Bld B b s w) (hl : s.size + x.size ≤ 1048576) (hB : B ≤ w.heap.size) :
    Calls Tryd.prog 54 #[.pointer (some ⟨b, 0, none⟩), .string x] w fun e w' => e = .returned (.tuple #[.int .i64 x.size, .nilIface]) ∧ Bld B b (s ++ x) w' ∧ Below B w w' ∧ Lib.OthersKept 5 (some b) w w' := by
  have hb : (Lib.byteCells s.data.toList).length = s.size := by rw [Lib.byteCells_length]; rfl
  refine (Any.Builder_WriteString_k lays166 bextra B b _ x w h (by rw [hb]; omega) hB).mono ?_
  rintro e w' ⟨rfl, h1, h2, h3⟩
  refine ⟨rfl, .inr ?_, h2, h3⟩
  have he : Lib.byteCells (s ++ x).data.toList = Lib.byteCells s.data.toList ++ Lib.strCells x := by
    rw [Lib.strCells_eq, ← Lib.byteCells_append]
    simp [ByteArray.data_append]
  rw [he]
  exact h1
theorem b_String (B b : Nat) (s : ByteArray) (w : World) (h : Bld B b s w) (hB : B ≤ w.heap.size) :
    Calls Tryd.prog 56 #[.pointer (some ⟨b, 0, none⟩)] w fun e w' => e = .returned (.string s) ∧ Below B w w' := by
  refine (Any.Builder_String_any_k lays169 bextra B b s.data.toList w h hB).mono ?_
  rintro e w' ⟨rfl, _, h2, _⟩
  exact ⟨rfl, h2⟩

/-- The table that strconv reads. -/
def TabP (w : World) : Prop := Lib.TabIs Tryd.prog w "internal/strconv.uint64pow10" .u64 Lib.pow10Tab
theorem TabP.gw {w w' : World} (h : TabP w) (hg : Gw w w') : TabP w' := by
  unfold TabP Lib.TabIs World.var? at *
  cases hn : Program.globalNamed Tryd.prog "internal/strconv.uint64pow10" with
  | none => rw [hn] at h; exact absurd h (by simp)
  | some g =>
    rw [hn] at h
    simp only [Option.bind_some] at h ⊢
    rcases Nat.lt_or_ge g w.heap.size with hlt | hge
    · rw [hg.heap hlt]
      exact h
    · rw [Array.getElem?_eq_none hge] at h
      exact absurd h (by simp)
/-- A number in decimal. -/
def numS (n : Int) : ByteArray := ⟨(Lib.itoa n).toArray⟩
theorem dec_len : ∀ (k n : Nat), n < 10 ^ (k + 1) → (Lib.decDigits n).length ≤ k + 1
  | 0, n, h => by
    rw [Lib.decDigits, dif_pos (by simpa using h)]
    simp
  | k + 1, n, h => by
    rw [Lib.decDigits]
    split
    · simp
    · have := dec_len k (n / 10) (by rw [Nat.pow_succ] at h; omega)
      simp only [List.length_append, List.length_singleton]
      omega
theorem numS_size {n : Int} (h0 : 0 ≤ n) (h1 : n ≤ 999999) : (numS n).size ≤ 6 := by
  have : (numS n).size = (Lib.decDigits n.toNat).length := by
    unfold numS Lib.itoa
    rw [if_neg (by omega)]
    show (Lib.decDigits n.toNat).toArray.size = _
    simp
  rw [this]
  exact dec_len 5 n.toNat (by omega)
theorem i_Itoa (n : Int) (h0 : 0 ≤ n) (h1 : n ≤ 999999) (w : World) (ht : TabP w) :
    Calls Tryd.prog 55 #[.int .i64 n] w fun e w' => e = .returned (.string (numS n)) ∧ Gw w w' := by
  refine (Tryd.strconv_Itoa n (by omega) (by omega) w ht).mono ?_
  rintro e w' ⟨rfl, k, os, rfl⟩
  exact ⟨rfl, ⟨rfl, rfl, rfl, by show w.heap.size ≤ (w.heap ++ os).size; simp, fun i hi => by
    show ((w.drewN k).heap ++ os)[i]? = _
    rw [Array.getElem?_append_left (by show i < w.heap.size; omega)]
    rfl⟩⟩
end Go.Proofs.YtgbgmmdpldekbaaDoor
