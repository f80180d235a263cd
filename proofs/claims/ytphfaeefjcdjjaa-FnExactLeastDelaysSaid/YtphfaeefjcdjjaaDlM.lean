/-
  The program's least delays: the walk.
-/
import Derived.Test.YtphfaeefjcdjjaaDlL
namespace Go.Proofs.Ytphfaeefjcdjjaa
open Go.RowKit Go.ChangeShapes Go.WideShapes
set_option linter.unusedVariables false

set_option maxHeartbeats 8000000 in
set_option maxRecDepth 100000 in
theorem i_leastDelays (A : Option Addr) (ca : Nat) (F : List (Int × Int)) (B : Option Addr) (cb : Nat) (G : List (Int × Int)) (C : Int) (D : Option Addr) (cd : Nat) (P : List Int) (least : Int) (w : World) (rF : Rd w A F) (rG : Rd w B G) (rP : Rd w D P) (hT : RepT F G C P) (hl : InR least 0 80) :
    Calls Try.prog 22 #[.agg #[.slice A F.length ca, .slice B G.length cb, .int .i64 C, .slice D P.length cd], .int .i64 least] w fun e w' => ∃ v s, e = .returned (.tuple #[v, .int .i64 s]) ∧ BestD w' w.heap.size P.length (bestD (clF (movesL F G C P) least P.length) P.length) v s ∧ Gw w w' := by
  have bx := Lib.hid (BoxR.new w #[.slice A F.length ca, .slice B G.length cb, .int .i64 C, .slice D P.length cd] 31)
  have g0 := Lib.hid ((Gw.refl w).alloc (.cells #[.slice A F.length ca, .slice B G.length cb, .int .i64 C, .slice D P.length cd] 31))
  have hP6 : P.length ≤ 6 := by have := hT.1.2.2.2.2.2; have := hT.2.2; omega
  have hP1 : 1 ≤ P.length := by have := hT.1.2.2.2.2.2; have := hT.1.1.2.1; omega
  have HT := Lib.hid hT
  have HL := Lib.hid hl
  clear hT hl
  go_enter Try.func22, Try.ntmps22
  go_wp2_with fail
  refine (i_movesOf A ca F B cb G C D cd P _ (rF.gw g0.out) (rG.gw g0.out) (rP.gw g0.out) HT.out).mono ?_
  rintro _ w1 ⟨A1, c1, rfl, hown1, hb1⟩
  have hG1 := Lib.hid (g0.out.trans hb1)
  have hrd1 : Hid (Rd w1 A1 (movesL F G C P)) := own_rd (by rw [movesL_len]; exact hown1)
  have hmv := Lib.hid (fun i => movesL_at HT.out (i := i))
  obtain ⟨n, hn⟩ : ∃ n, P.length = n := ⟨_, rfl⟩
  have Hn := Lib.hid hn
  rw [hn] at hP6 hP1 hmv ⊢
  obtain ⟨L, hL⟩ : ∃ L, movesL F G C P = L := ⟨_, rfl⟩
  rw [hL] at hrd1 hmv
  have HnL := Lib.hid hL
  clear hn hL bx hown1 hb1 rF rG rP
  obtain ⟨cs0, htab0⟩ := TabD.new w1 L least n
  have Htab0 := Lib.hid htab0
  clear htab0
  dsimp only
  go_wp2_with fail
  go_loopw [20] (fun q wr => ∃ i : Nat, q = .int .i64 i ∧ i ≤ n ∧ DsS w1 wr w1.heap.size L least n (i * 150 + (i + 1) * 25)) (fun q _ => n - (intOf q).toNat)
  case atStart => exact ⟨0, by go_num, Nat.zero_le _, DsS.skip (c := 0) ⟨⟨cs0, Htab0.out⟩, (Gw.refl _).alloc _⟩ (fun i k p q h1 h2 h3 h4 h5 h6 => by omega)⟩
  case round =>
    obtain ⟨i, rfl, hi, hs⟩ := hrel
    by_cases hlt : i < n
    · have hs : DsS w1 wr w1.heap.size L least n (i * 150 + (i + 1) * 25) := hs
      go_wp2_with fail
      go_loopw [9] (fun q wr => ∃ k : Nat, q = .int .i64 k ∧ i + 1 ≤ k ∧ k ≤ n ∧ DsS w1 wr w1.heap.size L least n (i * 150 + k * 25)) (fun q _ => n - (intOf q).toNat)
      case atStart => exact ⟨i + 1, by go_num, Nat.le_refl _, by omega, hs⟩
      case round =>
        obtain ⟨k, rfl, hk1, hk2, hs⟩ := hrel
        by_cases hlk : k < n
        · go_wp2_with fail
          go_loopw [10] (fun q wr => ∃ p : Nat, q = .int .i64 p ∧ p ≤ 5 ∧ DsS w1 wr w1.heap.size L least n (i * 150 + k * 25 + p * 5)) (fun q _ => 5 - (intOf q).toNat)
          case atStart => exact ⟨0, by go_num, by omega, hs⟩
          case round =>
            obtain ⟨p, rfl, hp, hs⟩ := hrel
            by_cases hlp : p < 5
            · have hd4 : decide ((p : Int) ≤ 4) = true := by simp; omega
              go_wp2_with fail
              go_loopw [11] (fun q wr => ∃ q' : Nat, q = .int .i64 q' ∧ q' ≤ 5 ∧ DsS w1 wr w1.heap.size L least n (i * 150 + k * 25 + p * 5 + q')) (fun q _ => 5 - (intOf q).toNat)
              case atStart => exact ⟨0, by go_num, by omega, hs⟩
              case round =>
                obtain ⟨q, rfl, hq, hs⟩ := hrel
                by_cases hlq : q < 5
                · have hd4q : decide ((q : Int) ≤ 4) = true := by simp; omega
                  obtain ⟨a, b, c, d, hxi, hma⟩ := hmv.out i hlt
                  obtain ⟨a', b', c', d', hxk, hmb⟩ := hmv.out k hlk
                  obtain ⟨⟨cs, htab⟩, hg⟩ := hs
                  obtain ⟨m1, o1, rfl, hbl, d0, d1, d2, d3, d4⟩ := (hrd1.out.gw hg).get5 hxi
                  obtain ⟨m2, o2, hae, hbl2, f0, f1, f2, f3, f4⟩ := (hrd1.out.gw hg).get5 hxk
                  simp only [Option.some.injEq, Addr.mk.injEq, and_true] at hae
                  obtain ⟨rfl, rfl⟩ := hae
                  obtain ⟨bb, hbb⟩ := bool_of (closeM L least i k p q)
                  have T := fun u => (i_closeDelayed a b c d a' b' c' d' C (p : Int) (q : Int) least u hma hmb (by omega) (by omega) HL.out).mono (tells_bool (hbb.trans (closeM_of hxi hxk)))
                  have HTc := Lib.hid T
                  have hput : ∀ u, Gw wr u → u.cell? ⟨w1.heap.size, i * 150 + k * 25 + p * 5 + q, none⟩ = some (.bool (partD L least n (i * 150 + k * 25 + p * 5 + q) i k p q)) ∧ u.frozen? ⟨w1.heap.size, i * 150 + k * 25 + p * 5 + q, none⟩ = false ∧ DsS w1 (u.setCell ⟨w1.heap.size, i * 150 + k * 25 + p * 5 + q, none⟩ (.bool bb)) w1.heap.size L least n (i * 150 + k * 25 + p * 5 + (q + 1)) := fun u hu =>
                    ⟨(htab.gw hu).cell (by omega) (by omega) hlp hlq, (htab.gw hu).box.free _, ⟨_, (htab.gw hu).put rfl (by omega) hlk hP6 hlp hlq hbb⟩, (hg.trans hu).set (Nat.le_refl _) _⟩
                  have Hput := Lib.hid hput
                  have hi6 : (i : Int) < 6 := by omega
                  have hk6 : (k : Int) < 6 := by omega
                  have hp5 : (p : Int) < 5 := by omega
                  have hq5 : (q : Int) < 5 := by omega
                  have hi0 : (0 : Int) ≤ (i : Int) := by omega
                  have hk0 : (0 : Int) ≤ (k : Int) := by omega
                  have hp0 : (0 : Int) ≤ (p : Int) := by omega
                  have hq0 : (0 : Int) ≤ (q : Int) := by omega
                  have hin : (i : Int) < (n : Int) := by omega
                  have hkn : (k : Int) < (n : Int) := by omega
                  dsimp only at d0 d1 d2 d3 d4 f0 f1 f2 f3 f4
                  clear hput T hbb hxi hxk hma hmb htab hd4 hd4q
                  go_wp2_with fail
                  go_region_law (first | (go_simp; go_at_call 33; refine (HTc.out _).mono ?_; rintro e w5 ⟨rfl, hb5⟩; have hgB : Gw wr w5 := Gw.trans (by (repeat (first | with_reducible exact Gw.refl _ | with_reducible assumption | ((with_reducible refine Gw.set ?_ ?_ _); rotate_left; (focus (first | (simp; done) | (simp; omega) | omega))) | with_reducible refine Gw.alloc ?_ _ | with_reducible refine Gw.drew ?_ | with_reducible refine Gw.drewN ?_ _ | (refine Gw.trans ?_ (by with_reducible assumption))))) hb5; obtain ⟨hx1, hx2, hx3⟩ := Hput.out w5 hgB; have Hp := Lib.hid hx3; clear hx3))
                  all_goals
                    go_wp2_with fail
                    go_roundw
                    case rel => exact ⟨q + 1, by go_num, by omega, Hp.out⟩
                    case measure => simp [intOf]; omega
                · obtain rfl : q = 5 := by omega
                  go_wp2_with fail
                  go_roundw
                  case rel => exact ⟨p + 1, by go_num, by omega, by rw [show i * 150 + k * 25 + (p + 1) * 5 = i * 150 + k * 25 + p * 5 + 5 by omega]; exact hs⟩
                  case measure => simp [intOf]; omega
            · obtain rfl : p = 5 := by omega
              go_wp2_with fail
              go_roundw
              case rel => exact ⟨k + 1, by go_num, by omega, by omega, by rw [show i * 150 + (k + 1) * 25 = i * 150 + k * 25 + 5 * 5 by omega]; exact hs⟩
              case measure => simp [intOf]; omega
        · obtain rfl : k = n := by omega
          go_wp2_with fail
          go_roundw
          case rel => exact ⟨i + 1, by go_num, by omega, hs.skip (fun i' k' p q h1 h2 h3 h4 h5 h6 => by omega)⟩
          case measure => simp [intOf]; omega
    · obtain rfl : i = n := by omega
      obtain ⟨⟨cs, htab⟩, hg⟩ := hs
      have hS : SearchD (wr.alloc (.cells #[] 3)) w1.heap.size w1.heap.size (clF L least i) i none :=
        ⟨_, _, cs, (htab.congr fun i' k' p q h1 h2 h3 h4 => part_full fun h5 h6 => by omega).gw ((Gw.refl wr).alloc _), .inl ⟨rfl, rfl, rfl⟩⟩
      have hgz := hg.size
      have T := i_goOn w1 w1.heap.size i (clF L least i) hP1 hP6 (Nat.le_refl _) i 0 [] 0 none (wr.alloc (.cells #[] 3)) (some ⟨wr.heap.size, 0, none⟩) 0 (by omega) rfl rfl (fun x hx => by simp at hx) (World.ownsRow_made wr #[] 0 hgz (by simp [maxLen]) (by simp)) (hg.alloc _) hS
      have HT2 := Lib.hid T
      have Hg := Lib.hid hg
      clear T hS htab
      go_wp2_with fail
      refine HT2.out.mono ?_
      rintro _ w3 ⟨rfl, h5, h6⟩
      have hg3 := Lib.hid (gw_box (Hg.out.alloc _) (Nat.le_refl _) h6)
      obtain ⟨v, e, cs3, htab3, hst3⟩ := h5
      have Hst3 := Lib.hid hst3
      have hgl := htab3.box.lt
      have c901 := htab3.box.cell 901 htab3.best
      have c902 := htab3.box.cell 902 htab3.sum
      obtain ⟨A5, m5, c5, rfl⟩ : ∃ A5 m5 c5, v = .slice A5 m5 c5 := by
        rcases hst3 with ⟨_, rfl, _⟩ | ⟨o, h, c, _, _, _, _, rfl, _⟩
        · exact ⟨_, _, _, rfl⟩
        · exact ⟨_, _, _, rfl⟩
      clear htab3 hst3 h6
      dsimp only
      go_wp2_with ((with_reducible refine wp_region_gw (by kernel_rfl) (by kernel_rfl) ?_); have hcq := @GwOf.cell; (repeat (go_big_quiet_step (fail))); refine wpQuiet_nil ?_; clear hcq; rintro w' ⟨⟨w', hb⟩, rfl⟩; (try dsimp only); have hc := hb.cells; have hf := hb.frozens; have hz := hb.size; (try simp at hz); (try have hz0 : w.heap.size < w'.heap.size := (by omega)); (try have hz1 : w.heap.size + 1 < w'.heap.size := (by omega)); (try have hz2 : w.heap.size + 2 < w'.heap.size := (by omega)); (try have hz3 : w.heap.size + 3 < w'.heap.size := (by omega)); (try have hz4 : w.heap.size + 4 < w'.heap.size := (by omega)); (try have hz5 : w.heap.size + 5 < w'.heap.size := (by omega)))
      go_ret2
      refine ⟨_, e, rfl, ?_, (hG1.out.trans hg3.out).trans hb⟩
      rw [Hn.out, HnL.out]
      exact (Hst3.out.lower hG1.out.size).gw hb
end Go.Proofs.Ytphfaeefjcdjjaa
