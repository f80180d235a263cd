/-
  Booked ones: the second way to ask whether they are valid; their end, hours, who rehearses.
-/
import Derived.Test.YtipndibiioajmaaReh
namespace Go.Proofs.Ytipndibiioajmaa
open Go.RowKit

set_option maxHeartbeats 4000000 in
theorem i_AreBooked (A : Option Addr) (c : Nat) (l : List (Int × Int × Int × Int)) (w : World) (hl : l.length ≤ 1048576) (hA : Rd w A l) (hlc : l.length ≤ c) :
    Calls Try.prog 37 #[.slice A l.length c] w (Tells (BookP l) w) := by
  by_cases h6 : 6 < l.length
  · go_enter Try.func37, Try.ntmps37
    go_wp2_with fail
    go_ret
    exact .inr ⟨fun h => by have := h.2.2; omega, rfl, by (repeat (first | with_reducible exact Gw.refl _ | with_reducible assumption | ((with_reducible refine Gw.set ?_ ?_ _); rotate_left; (focus (first | (simp; done) | (simp; omega) | omega))) | with_reducible refine Gw.alloc ?_ _ | with_reducible refine Gw.drew ?_ | with_reducible refine Gw.drewN ?_ _ | (refine Gw.trans ?_ (by with_reducible assumption))))⟩
  go_enter Try.func37, Try.ntmps37
  go_wp2_with fail
  go_loopw [12] (fun i wr => ∃ k : Nat, i = .int .i64 k ∧ k ≤ l.length ∧ Hid (AllTo (fun x : (Int × Int × Int × Int) => BkP x.1 x.2.1 x.2.2.1 x.2.2.2) l k) ∧ Gw w wr) (fun i _ => l.length - (intOf i).toNat)
  case atStart => exact ⟨0, by go_num, Nat.zero_le _, AllTo.zero, by (repeat (first | with_reducible exact Gw.refl _ | with_reducible assumption | ((with_reducible refine Gw.set ?_ ?_ _); rotate_left; (focus (first | (simp; done) | (simp; omega) | omega))) | with_reducible refine Gw.alloc ?_ _ | with_reducible refine Gw.drew ?_ | with_reducible refine Gw.drewN ?_ _ | (refine Gw.trans ?_ (by with_reducible assumption))))⟩
  case round =>
    obtain ⟨k, rfl, hk, hall, hgw⟩ := hrel
    by_cases hlt : k < l.length
    · obtain ⟨x, hx⟩ := get_of_lt hlt
      obtain ⟨b, off, rfl, hb, c0, c1, c2, c3⟩ := (hA.gw hgw).get4 hx
      have Hx : Hid (l[k]? = some x) := hx; clear hx
      go_wp2_with (go_at_call 58; refine (i_within _ _ _ _).mono ?_; rintro e w' (⟨hp, rfl, rfl⟩ | ⟨hp, rfl, rfl⟩))
      all_goals first
        | (go_roundw
           case rel => exact ⟨k + 1, by go_num, by omega, AllTo.succ hall.out Hx.out (by omega), by (repeat (first | with_reducible exact Gw.refl _ | with_reducible assumption | ((with_reducible refine Gw.set ?_ ?_ _); rotate_left; (focus (first | (simp; done) | (simp; omega) | omega))) | with_reducible refine Gw.alloc ?_ _ | with_reducible refine Gw.drew ?_ | with_reducible refine Gw.drewN ?_ _ | (refine Gw.trans ?_ (by with_reducible assumption))))⟩
           case measure => simp [intOf]; omega)
        | (go_ret
           exact .inr ⟨fun h => by have := h.1 x (mem_of_get Hx.out); omega, rfl, by (repeat (first | with_reducible exact Gw.refl _ | with_reducible assumption | ((with_reducible refine Gw.set ?_ ?_ _); rotate_left; (focus (first | (simp; done) | (simp; omega) | omega))) | with_reducible refine Gw.alloc ?_ _ | with_reducible refine Gw.drew ?_ | with_reducible refine Gw.drewN ?_ _ | (refine Gw.trans ?_ (by with_reducible assumption))))⟩)
    · have HA : Hid (∀ x ∈ l, BkP x.1 x.2.1 x.2.2.1 x.2.2.2) := AllTo.all hall.out (by omega)
      clear hall
      go_wp2_with fail
      obtain ⟨w1, hw1⟩ : ∃ w1 : World, w1 = wr := ⟨_, rfl⟩
      subst hw1
      go_loopw [46] (fun i wr => ∃ k : Nat, i = .int .i64 k ∧ k ≤ l.length ∧ Hid (PairTo (fun x y : (Int × Int × Int × Int) => ¬(ClashP x.1 x.2.1 x.2.2.1 x.2.2.2 y.1 y.2.1 y.2.2.1 y.2.2.2)) l k) ∧ Gw w wr) (fun i _ => l.length - (intOf i).toNat)
      case atStart => exact ⟨0, by go_num, Nat.zero_le _, PairTo.zero, by (repeat (first | with_reducible exact Gw.refl _ | with_reducible assumption | ((with_reducible refine Gw.set ?_ ?_ _); rotate_left; (focus (first | (simp; done) | (simp; omega) | omega))) | with_reducible refine Gw.alloc ?_ _ | with_reducible refine Gw.drew ?_ | with_reducible refine Gw.drewN ?_ _ | (refine Gw.trans ?_ (by with_reducible assumption))))⟩
      case round =>
        obtain ⟨k, rfl, hk, hpair, hgw⟩ := hrel
        by_cases hlt : k < l.length
        · obtain ⟨x, hx⟩ := get_of_lt hlt
          have hAr := hA.gw hgw
          have hAt := hAr.take k
          obtain ⟨b, off, rfl, hb, c0, c1, c2, c3⟩ := hAr.get4 hx
          have hkx := HA.out x (mem_of_get hx)
          have Hx : Hid (l[k]? = some x) := hx
          clear hx
          have hk2 : k ≤ c := by omega
          have hlk : Hid ((l.take k).length = k) := by unfold Hid; rw [List.length_take]; omega
          have hiff : (∃ y ∈ l.take k, ColP x.1 x.2.1 x.2.2.1 x.2.2.2 y.1 y.2.1 y.2.2.1 y.2.2.2) ↔ ¬AllTo (fun y : (Int × Int × Int × Int) => ¬(ClashP x.1 x.2.1 x.2.2.1 x.2.2.2 y.1 y.2.1 y.2.2.1 y.2.2.2)) l k := by
            constructor
            · rintro ⟨y, hy, hcol⟩ h
              obtain ⟨j, hj, hjy⟩ := List.getElem_of_mem hy
              rw [List.getElem_take] at hjy
              have hjk : j < k := by have := hj; rw [hlk.out] at this; exact this
              have := h j y hjk (by rw [List.getElem?_eq_getElem (by omega), hjy])
              omega
            · intro h
              apply Classical.byContradiction
              intro hne
              refine h fun j y hj hy hcl => hne ⟨y, ?_, ?_⟩
              · exact List.mem_of_getElem? (i := j) (by rw [List.getElem?_take, if_pos hj]; exact hy)
              · have := HA.out y (mem_of_get hy)
                omega
          by_cases hE : ∃ y ∈ l.take k, ColP x.1 x.2.1 x.2.2.1 x.2.2.2 y.1 y.2.1 y.2.2.1 y.2.2.2
          · have HE := Lib.hid hE
            have Hiff := Lib.hid hiff
            clear hE hiff
            go_wp2_with ((with_reducible refine wp_region_gw (by kernel_rfl) (by kernel_rfl) ?_); have hcq := @GwOf.cell; (repeat (go_big_quiet_step ((go_at_call 64; exact GwOf.callT HE.out (i_collidesWith _ _ _ _ _ _ _ _ _ hlk.out (by omega) (hAt.gw (Gw.trans ((Gw.refl _).alloc _) (GwOf.gw _)))))))); refine wpQuiet_nil ?_; clear hcq; rintro w' ⟨⟨w', hb⟩, rfl⟩; (try dsimp only); have hc := hb.cells; have hf := hb.frozens; have hz := hb.size; (try simp at hz); (try have hz0 : w.heap.size < w'.heap.size := (by omega)); (try have hz1 : w.heap.size + 1 < w'.heap.size := (by omega)); (try have hz2 : w.heap.size + 2 < w'.heap.size := (by omega)); (try have hz3 : w.heap.size + 3 < w'.heap.size := (by omega)); (try have hz4 : w.heap.size + 4 < w'.heap.size := (by omega)); (try have hz5 : w.heap.size + 5 < w'.heap.size := (by omega)))
            go_ret
            exact .inr ⟨fun h => (Hiff.out.1 HE.out) (fun j y hj hy => h.2.1 k j x y hj Hx.out hy), rfl, by (repeat (first | with_reducible exact Gw.refl _ | with_reducible assumption | ((with_reducible refine Gw.set ?_ ?_ _); rotate_left; (focus (first | (simp; done) | (simp; omega) | omega))) | with_reducible refine Gw.alloc ?_ _ | with_reducible refine Gw.drew ?_ | with_reducible refine Gw.drewN ?_ _ | (refine Gw.trans ?_ (by with_reducible assumption))))⟩
          · have HN : Hid (AllTo (fun y : (Int × Int × Int × Int) => ¬(ClashP x.1 x.2.1 x.2.2.1 x.2.2.2 y.1 y.2.1 y.2.2.1 y.2.2.2)) l k) := Classical.byContradiction fun h => hE (hiff.2 h)
            have HE := Lib.hid hE
            clear hE hiff
            go_wp2_with ((with_reducible refine wp_region_gw (by kernel_rfl) (by kernel_rfl) ?_); have hcq := @GwOf.cell; (repeat (go_big_quiet_step ((go_at_call 64; exact GwOf.callF HE.out (i_collidesWith _ _ _ _ _ _ _ _ _ hlk.out (by omega) (hAt.gw (Gw.trans ((Gw.refl _).alloc _) (GwOf.gw _)))))))); refine wpQuiet_nil ?_; clear hcq; rintro w' ⟨⟨w', hb⟩, rfl⟩; (try dsimp only); have hc := hb.cells; have hf := hb.frozens; have hz := hb.size; (try simp at hz); (try have hz0 : w.heap.size < w'.heap.size := (by omega)); (try have hz1 : w.heap.size + 1 < w'.heap.size := (by omega)); (try have hz2 : w.heap.size + 2 < w'.heap.size := (by omega)); (try have hz3 : w.heap.size + 3 < w'.heap.size := (by omega)); (try have hz4 : w.heap.size + 4 < w'.heap.size := (by omega)); (try have hz5 : w.heap.size + 5 < w'.heap.size := (by omega)))
            go_roundw
            case rel => exact ⟨k + 1, by go_num, by omega, PairTo.succ hpair.out Hx.out HN.out, by (repeat (first | with_reducible exact Gw.refl _ | with_reducible assumption | ((with_reducible refine Gw.set ?_ ?_ _); rotate_left; (focus (first | (simp; done) | (simp; omega) | omega))) | with_reducible refine Gw.alloc ?_ _ | with_reducible refine Gw.drew ?_ | with_reducible refine Gw.drewN ?_ _ | (refine Gw.trans ?_ (by with_reducible assumption))))⟩
            case measure => simp [intOf]; omega
        · have HP : Hid (∀ (i j : Nat) (x y : (Int × Int × Int × Int)), j < i → l[i]? = some x → l[j]? = some y → ¬(ClashP x.1 x.2.1 x.2.2.1 x.2.2.2 y.1 y.2.1 y.2.2.1 y.2.2.2)) := PairTo.all hpair.out (by omega)
          go_wp2_with fail
          go_ret
          exact .inl ⟨⟨HA.out, HP.out, by omega⟩, rfl, by (repeat (first | with_reducible exact Gw.refl _ | with_reducible assumption | ((with_reducible refine Gw.set ?_ ?_ _); rotate_left; (focus (first | (simp; done) | (simp; omega) | omega))) | with_reducible refine Gw.alloc ?_ _ | with_reducible refine Gw.drew ?_ | with_reducible refine Gw.drewN ?_ _ | (refine Gw.trans ?_ (by with_reducible assumption))))⟩

end Go.Proofs.Ytipndibiioajmaa
