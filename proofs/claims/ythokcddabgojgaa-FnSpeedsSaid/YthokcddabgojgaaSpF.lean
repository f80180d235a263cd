/-
  Draws of moves: a list that mostly go together.
-/
import Derived.Test.YthokcddabgojgaaSpE
import Derived.Test.YthokcddabgojgaaTyMove
import Derived.Test.YthokcddabgojgaaPush2
namespace Go.Proofs.Ythokcddabgojgaa
open Go.RowKit

abbrev M5 := Int × Int × Int × Int × Int
def MvX (x : M5) : Prop := MvC x.1 x.2.1 x.2.2.1 x.2.2.2.1 x.2.2.2.2
set_option maxHeartbeats 16000000 in
set_option maxRecDepth 20000 in
theorem mt_tail {w0 w W : World} {g m m1 : Nat} {N : Int} {s1 s2 s5 s6 s7 s8 s9 s10 s11 s12 s13 s14 s15 s16 s17 s18 s19 s20 s21 s22 s23 s24 s25 s26 s27 s28 s29 s30 s31 s32 s33 s34 s35 s36 s37 s38 s39 s40 s41 s42 s43 s44 s45 s46 s47 s48 s49 s50 s51 s52 s53 s54 : Value} (hC : CurP w0 W g m1) (hg : w.grownBy W (some g)) (hlt : g < w.heap.size) (hw0 : w0.heap.size ≤ w.heap.size) (hm1 : m1 ≤ m + 10) (hm : m ≤ 80000000) (hN : 1 ≤ N ∧ N ≤ 13) :
    Code.wp Try.prog (Code.tailOf 4 (Try.f38.body.getD .skip)) (bodyPost Try.prog Try.f38 (fun e w' => ∃ (l : List M5) (A : Option Addr) (c n : Nat), e = .returned (.slice A n c) ∧ l.length = n ∧ n ≤ 13 ∧ (∀ x ∈ l, MvX x) ∧ w'.ownsRow w.heap.size 39 5 (.slice A n c) n (flat l) ∧ CurP w0 w' g (m + 5000) ∧ w.grownBy w' (some g))) ⟨#[.pointer (some ⟨g, 0, none⟩), s1, s2, .slice none 0 0, .int .i64 N, s5, s6, s7, s8, s9, s10, s11, s12, s13, s14, s15, s16, s17, s18, s19, s20, s21, s22, s23, s24, s25, s26, s27, s28, s29, s30, s31, s32, s33, s34, s35, s36, s37, s38, s39, s40, s41, s42, s43, s44, s45, s46, s47, s48, s49, s50, s51, s52, s53, s54], []⟩ W := by
  obtain ⟨i0, hi, iz0, iz1, iz2⟩ := info_parts infoMove
  conv => arg 2; whnf
  conv => arg 4; zeta
  go_wp2_with fail
  go_loopw [3, 5, 6] (fun o _ _ wr => ∃ (T : Nat) (l : List M5) (A : Option Addr) (c : Nat), o = .slice A l.length c ∧ T ≤ l.length ∧ l.length ≤ 13 ∧ (∀ x ∈ l, MvX x) ∧ wr.ownsRow w.heap.size 39 5 (.slice A l.length c) l.length (flat l) ∧ Hid (CurP w0 wr g (m + 10 + 300 * T) ∧ w.grownBy wr (some g))) (fun o _ _ _ => 14 - sliceLen o)
  case atStart => exact ⟨0, [], none, 0, rfl, by simp, by simp, fun x h => by simp at h, World.ownsRow_nil _ _ _ _, ⟨hC.mono (by omega), hg⟩⟩
  case round =>
    clear hC hg
    obtain ⟨wo, rfl⟩ : ∃ wo : World, wo = wr := ⟨_, rfl⟩
    obtain ⟨T, l, A, c, rfl, hT, hl, hB, hown, hcur⟩ := hrel
    have HB := Lib.hid hB
    clear hB
    by_cases hlN : (l.length : Int) < N
    · go_wp2_with fail
      refine (s_together (w0 := w0) hcur.out.1 (by omega)).mono ?_
      rintro _ w3 ⟨a, b, c', d, n, a', b', c'', d', n', rfl, hb1, hb2, hC3, hr3⟩
      have hown3 := own_grow hown hr3 hlt
      have hg3 := grownBy_trans hcur.out.2 hr3
      have hs3 := hg3.size
      have bA := (BoxR.new w3 #[.int .i64 a, .int .i64 b, .int .i64 c', .int .i64 d, .int .i64 n] 39).gw ((Gw.refl _).alloc (.cells #[.int .i64 a', .int .i64 b', .int .i64 c'', .int .i64 d', .int .i64 n'] 39))
      have bB := BoxR.new (w3.alloc (.cells #[.int .i64 a, .int .i64 b, .int .i64 c', .int .i64 d, .int .i64 n] 39)) #[.int .i64 a', .int .i64 b', .int .i64 c'', .int .i64 d', .int .i64 n'] 39
      simp only [World.size_alloc] at bB
      have hC4 := (hC3.alloc (.cells #[.int .i64 a, .int .i64 b, .int .i64 c', .int .i64 d, .int .i64 n] 39)).alloc (.cells #[.int .i64 a', .int .i64 b', .int .i64 c'', .int .i64 d', .int .i64 n'] 39)
      have hg4 := grow_alloc (grow_alloc hg3 (.cells #[.int .i64 a, .int .i64 b, .int .i64 c', .int .i64 d, .int .i64 n] 39)) (.cells #[.int .i64 a', .int .i64 b', .int .i64 c'', .int .i64 d', .int .i64 n'] 39)
      have hown4 := (hown3.alloc (.cells #[.int .i64 a, .int .i64 b, .int .i64 c', .int .i64 d, .int .i64 n] 39)).alloc (.cells #[.int .i64 a', .int .i64 b', .int .i64 c'', .int .i64 d', .int .i64 n'] 39)
      have hol : ∀ k, (Value.slice A l.length c).ownBlock = some k → k < w3.heap.size := fun k hk => (hown3.lt k hk).2
      have hnb : (Value.slice A l.length c).ownBlock ≠ some (w3.heap.size + 1) := fun e => by have := hol _ e; omega
      go_upto_region 7 with fail
      clear hown hown3 hr3 hC3 hg3 hcur
      generalize hW4 : ((w3.alloc (.cells #[.int .i64 a, .int .i64 b, .int .i64 c', .int .i64 d, .int .i64 n] 39)).alloc (.cells #[.int .i64 a', .int .i64 b', .int .i64 c'', .int .i64 d', .int .i64 n'] 39)) = w4 at *
      have hz4 : w3.heap.size + 2 = w4.heap.size := by rw [← hW4]; simp
      clear hW4
      have p0 := bA.cell 0 rfl
      have p1 := bA.cell 1 rfl
      have p2 := bA.cell 2 rfl
      have p3 := bA.cell 3 rfl
      have p4 := bA.cell 4 rfl
      have hs4 := hg4.size
      have hw4l := hg4.size
      go_upto_region 8 with (at_builtin; go_loud (refine wpList_push2 (α := M5) rfl (.tmp 25) (.tmp 27) 31 rfl w.heap.size 39 i0 _ 40 Try.underlying31 hi iz0 iz1 iz2 rfl (by omega) l A c rfl w4 (a, b, c', d, n) rfl _ rfl rfl hown4 (by omega) (by omega) ?_); intro acc' A' c9 w9 hacc' hl1 hl2 hown' hgr hblk _)
      have hC9 := cur_push hC4 hlt hw0 hgr (fun k hk => (hown4.lt k hk).1)
      have hg9 := grow_push hg4 hgr (fun k hk => (hown4.lt k hk).1)
      have bB9 := bB.grown hgr hnb
      have hs9 := hg9.size
      have hl9 : acc'.length = l.length + 1 := by omega
      have HB9 : Hid (∀ x ∈ acc', MvX x) := by
        unfold Hid
        rw [hacc'.out]
        exact all_snoc HB.out hb1.c
      have q0 := bB9.cell 0 rfl
      have q1 := bB9.cell 1 rfl
      have q2 := bB9.cell 2 rfl
      have q3 := bB9.cell 3 rfl
      have q4 := bB9.cell 4 rfl
      clear p0 p1 p2 p3 p4 bA bB hown4 hC4 hg4 hgr hblk hacc' hl1 hl2
      obtain ⟨n9, hn9⟩ : ∃ n9, acc'.length = n9 := ⟨_, rfl⟩
      by_cases hl2N : (acc'.length : Int) < N
      · have hd : decide ((acc'.length : Int) < N) = true := by simp; omega
        go_wp2_with (at_builtin; go_loud (refine wpList_push2 (α := M5) rfl (.tmp 33) (.tmp 35) 31 rfl w.heap.size 39 i0 _ 40 Try.underlying31 hi iz0 iz1 iz2 rfl (by omega) acc' A' c9 rfl w9 (a', b', c'', d', n') rfl _ rfl rfl hown' (by omega) (by omega) ?_); intro acc2 A2 c2 w10 hacc2 hl1 hl2 hown2 hgr hblk _)
        go_roundw
        case rel => exact ⟨T + 1, acc2, A2, c2, rfl, by omega, by omega, by rw [hacc2.out]; exact all_snoc HB9.out hb2, hown2, ⟨(cur_push hC9 hlt hw0 hgr (fun k hk => (hown'.lt k hk).1)).mono (by omega), grow_push hg9 hgr (fun k hk => (hown'.lt k hk).1)⟩⟩
        case measure => simp [sliceLen]; omega
      · have hd : decide ((acc'.length : Int) < N) = false := by simp; omega
        go_wp2_with fail
        go_roundw
        case rel => exact ⟨T + 1, acc', A', c9, rfl, by omega, by omega, HB9.out, hown', ⟨hC9.mono (by omega), hg9⟩⟩
        case measure => simp [sliceLen]; omega
    · have hl1 : 1 ≤ l.length := by omega
      obtain ⟨n, hn⟩ : ∃ n, l.length = n := ⟨_, rfl⟩
      have Hn := Lib.hid hn
      rw [hn] at hown hT hl hl1 hlN ⊢
      clear hn
      obtain ⟨gg, rfl, hg1, hg2⟩ := own_addr hown (by omega)
      have hgg : ¬gg = g := by omega
      go_wp2_with fail
      go_loopw [7, 39] (fun _ q w5 => ∃ (i : Nat) (l' : List M5), q = .int .i64 i ∧ i ≤ n ∧ Hid (l'.length = n) ∧ Hid (∀ x ∈ l', MvX x) ∧ w5.ownsRow w.heap.size 39 5 (.slice (some ⟨gg, 0, none⟩) n c) n (flat l') ∧ Hid (CurP w0 w5 g (m + 10 + 300 * T + 2 * i) ∧ w.grownBy w5 (some g))) (fun _ q _ => n - (intOf q).toNat)
      case atStart => exact ⟨0, l, by go_num, Nat.zero_le _, Hn, HB, hown, ⟨hcur.out.1.mono (by omega), hcur.out.2⟩⟩
      case round =>
        obtain ⟨i, l', rfl, hin, hln, hB', hown', hcur'⟩ := hrel
        by_cases hlt2 : i < n
        · go_wp2_with fail
          refine (s_one (w0 := w0) _ _ _ 60 (by omega) (by omega) hcur'.out.1).mono ?_
          rintro _ w6 ⟨o, rfl, hC6, hr6⟩
          have hown6 := own_grow hown' hr6 hlt
          have hg6 := grownBy_trans hcur'.out.2 hr6
          cases o with
          | true =>
            go_wp2_with fail
            go_roundw
            case rel => exact ⟨i + 1, l', by go_num, by omega, hln, hB', hown6, ⟨hC6.mono (by omega), hg6⟩⟩
            case measure => simp [intOf]; omega
          | false =>
            obtain ⟨x, hx⟩ := get_of_lt (l := l') (k := i) (by rw [hln.out]; exact hlt2)
            obtain ⟨y, hy⟩ := get_of_lt (l := l') (k := 0) (by rw [hln.out]; omega)
            have hcx := own_cellsG (α := M5) hln.out hown6 hx
            have hcy := own_cellsG (α := M5) hln.out hown6 hy
            have hbx := hB'.out x (mem_of_get hx)
            have hby := hB'.out y (mem_of_get hy)
            have Hx := Lib.hid hx
            clear hx hy
            obtain ⟨x1, x2, x3, x4, x5⟩ := x
            obtain ⟨y1, y2, y3, y4, y5⟩ := y
            have d4 : w6.cell? ⟨gg, i * 5 + 4, none⟩ = some (.int .i64 x5) := hcx 4 _ rfl
            have e4 : w6.cell? ⟨gg, 4, none⟩ = some (.int .i64 y5) := by simpa using hcy 4 _ rfl
            have f4 := World.ownsRow.frozenAt hown6 (i * 5 + 4)
            have Hs := own_setG (α := M5) hown6 Hx.out 4 (x1, x2, x3, x4, y5) (.int .i64 y5) (by decide) rfl
            have Hs1 := Lib.hid Hs.1
            have hl2 : Hid ((l'.set i (x1, x2, x3, x4, y5)).length = n) := by unfold Hid; rw [List.length_set, hln.out]
            have hB2 : Hid (∀ x ∈ l'.set i (x1, x2, x3, x4, y5), MvX x) := all_set hB'.out i (by
              have h1 : MvC x1 x2 x3 x4 x5 := hbx
              have h2 : MvC y1 y2 y3 y4 y5 := hby
              exact ⟨h1.1, h1.2.1, h2.2.2⟩)
            have hC9 := Lib.hid (CurP.set hC6 (p := ⟨gg, i * 5 + 4, none⟩) (by show w0.heap.size ≤ gg; omega) (by exact hgg) (.int .i64 y5))
            have hg9 := Lib.hid (grow_set hg6 (p := ⟨gg, i * 5 + 4, none⟩) (by exact hg1) (.int .i64 y5))
            have hi0 : (0 : Int) ≤ (i : Int) := by omega
            have hi1 : (i : Int) < (n : Int) := by omega
            have hn0 : (0 : Int) < (n : Int) := by omega
            clear hcx hcy Hs hbx hby
            go_wp2_with fail
            go_roundw
            case rel => exact ⟨i + 1, _, by go_num, by omega, hl2, hB2, Hs1.out, ⟨hC9.out.mono (by omega), hg9.out⟩⟩
            case measure => simp [intOf]; omega
        · obtain rfl : i = n := by omega
          go_wp2_with fail
          go_ret
          exact ⟨l', some ⟨gg, 0, none⟩, c, i, rfl, hln.out, by omega, hB'.out, hown', hcur'.out.1.mono (by omega), hcur'.out.2⟩

set_option maxHeartbeats 16000000 in
set_option maxRecDepth 20000 in
theorem s_movesTogether {w0 w : World} {g m : Nat} (hC : CurP w0 w g m) (hm : m ≤ 80000000) :
    Calls Try.prog 38 #[.pointer (some ⟨g, 0, none⟩)] w fun e w' => ∃ (l : List M5) (A : Option Addr) (c n : Nat), e = .returned (.slice A n c) ∧ l.length = n ∧ n ≤ 13 ∧ (∀ x ∈ l, MvX x) ∧ w'.ownsRow w.heap.size 39 5 (.slice A n c) n (flat l) ∧ CurP w0 w' g (m + 5000) ∧ w.grownBy w' (some g) := by
  have hlt := CurP.lt hC
  have hw0 := hC.gw.size
  go_enter Try.func38, Try.ntmps38
  go_wp2_with fail
  refine (c_pick (w0 := w0) hC (by omega) (by omega)).mono ?_
  rintro _ w1 ⟨v, rfl, ⟨hv1, hv2, hv3⟩, hC1, hr1⟩
  have hv4 := hv3 (by omega)
  have wv : IntKind.i64.wrap (2 + v) = 2 + v := IntWalk.i64_in _ (by omega)
  clear hv3
  go_wp2_with fail
  refine (s_one (w0 := w0) _ _ _ 16 (by omega) (by omega) hC1).mono ?_
  rintro _ w2 ⟨o, rfl, hC2, hr2⟩
  have hg2 := grownBy_trans hr1 hr2
  cases o with
  | false =>
    dsimp only
    repeat (first | (go_at_K; go_step; exact mt_tail hC2 hg2 hlt hw0 (by omega) hm (by omega)) | go_step)
  | true =>
    go_wp2_with fail
    refine (c_among (w0 := w0) hC2 (by omega) (by simp [SmV]; try omega) (by first | rfl | simp) (by omega) (by omega) (by first | rfl | simp)).mono ?_
    rintro _ w3 ⟨N, rfl, ⟨-, -, hNm⟩, hC3, hr3⟩
    have hN : 1 ≤ N ∧ N ≤ 13 := by
      simp at hNm
      omega
    have hg3 := grownBy_trans (grow_alloc hg2 _) hr3
    clear hNm
    dsimp only
    repeat (first | (go_at_K; go_step; exact mt_tail hC3 hg3 hlt hw0 (by omega) hm hN) | go_step)
end Go.Proofs.Ythokcddabgojgaa
