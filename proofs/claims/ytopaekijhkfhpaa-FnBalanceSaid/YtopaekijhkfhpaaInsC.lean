/-
  slices.Insert of one section where there is room, and all roads together.
-/
import Derived.Test.YtopaekijhkfhpaaInsB
namespace Go.Proofs.Ytopaekijhkfhpaa
open Go.RowKit

set_option maxHeartbeats 4000000 in
set_option maxRecDepth 100000 in
theorem i_Insert_room (w0 w : World) (base g c n k : Nat) (L : List Sec) (x : Sec) (h : InsAt w0 w base g c n k L x) (hkn : k < n) (hcn : n + 1 ≤ c) :
    Calls Try.prog 50 #[.slice (some ⟨g, 0, none⟩) n c, .int .i64 k, .slice (some ⟨w0.heap.size, 0, none⟩) 1 1] w (InsQ w0 base n k L x) := by
  obtain ⟨i0, hi, hz0, hz1, hz2⟩ := info_parts infoSection
  obtain ⟨hc1, hc2⟩ := h.cap
  have hgl := h.g_lt
  have hn := h.hn
  have hb0 := h.hb
  have hsw : w.heap.size = w0.heap.size + 1 := by rw [h.hw]; simp
  have HX : Hid ((flat L).length = n * 3) := by unfold Hid; rw [flat_len, h.hL]; rfl
  have Hxl : (Flat.cells x).length = 3 := Flat.len x
  obtain ⟨X, hXd⟩ : ∃ X, X = flat L := ⟨_, rfl⟩
  obtain ⟨C, hCd⟩ : ∃ C, C = Flat.cells x := ⟨_, rfl⟩
  have hown := h.own1
  have hfi : X.take (k * 3) ++ C ++ X.drop (k * 3) = flat (L.take k ++ [x] ++ L.drop k) := by rw [hXd, hCd]; exact flat_ins L k x (by rw [h.hL]; omega)
  have H1X : Hid (∀ v ∈ X, v.oneCell' = true) := by unfold Hid; rw [hXd]; exact flat_cell L
  have H1C : Hid (∀ v ∈ C, v.oneCell' = true) := by unfold Hid; rw [hCd]; exact Flat.one x
  rw [← hXd] at HX hown
  rw [← hCd] at Hxl
  have Hcell : Hid (∀ j v, X[j]? = some v → w.cell? ⟨g, j, none⟩ = some v) := fun j v hj => by
    have hjl := (List.getElem?_eq_some_iff.1 hj).1
    rw [World.ownsRow.cellAt hown j (by have := HX.out; omega)]; exact hj
  have Hvc : Hid (∀ j v, C[j]? = some v → w.cell? ⟨w0.heap.size, j, none⟩ = some v) := fun j v hj => by
    have := h.cells j v (by rw [← hCd]; exact hj)
    rwa [addr_add, Nat.zero_add] at this
  have hsa : w.shape? w0.heap.size = some (44, 3) := by
    rw [h.hw, World.shape?_alloc_at _ _ _ rfl]
    simp [← hCd, Hxl]
  have hfz : ∀ j, w.frozen? ⟨w0.heap.size, j, none⟩ = false := fun j => by rw [h.hw]; exact World.frozen?_alloc_at (w := w0) _ _ w0.heap.size j rfl
  have hsb := own_shape hown
  have hov : ∀ lb cb, (callFunc 64 #[.slice (some ⟨w0.heap.size, 0, none⟩) 1 1, .slice (some ⟨g, (k + 1) * 3, none⟩) lb cb]).run Try.prog w = .ok (.value (.bool false)) w := fun lb cb => by
    rw [run_callFunc_extern Try.func64 (by kernel_rfl) (by kernel_rfl) (by kernel_rfl) (e := Extern.SlicesOverlaps.overlaps #[27, 27] #[4]) (by kernel_rfl),
      Lib.run_overlaps_apart w 27 4 44 Try.underlying27 3 (fun w => by simp [sizeOf, typeInfo, hi, hz1]) ⟨w0.heap.size, 0, none⟩ ⟨g, (k + 1) * 3, none⟩ 1 1 lb cb (by show w0.heap.size ≠ g; omega) _ _ _ _ hsa hsb (by omega) (hfz 0) (hfz 3)]
    rfl
  obtain ⟨Y, hYl, o1⟩ := own_widen hown (m := n + 1) (by omega) hcn
  have hYl : Y.length = C.length := by rw [hYl, Hxl]; omega
  have hk3 : k * 3 ≤ n * 3 := by omega
  have hdl : (X.drop (k * 3)).length = (n - k) * 3 := by rw [List.length_drop, HX.out]; omega
  have hsz : (Try.prog.info? 44).map (·.size) = some 3 := by rw [hi]; simp [hz1]
  have o1' := o1.drew
  have s1 := own_setCells (X.drop (k * 3)) (k * 3 + C.length) o1' (by rw [List.length_append, hdl, HX.out, hYl, Hxl]; omega)
  have l1 := s1.1.1
  have s2 := own_setCells C (k * 3) s1.1 (by rw [l1, Hxl]; omega)
  rw [ins_room (X := X) (Y := Y) (C := C) (a := k * 3) (by rw [HX.out]; omega) hYl, hfi] at s2
  rw [Hxl] at s2 s1
  have hcpA : ∀ (W : World), W = w.drew → ∀ ty dc sc, (Builtin.copy_ #[27, 27] ty #[.slice (some ⟨g, (k + 1) * 3, none⟩) (n - k) dc, .slice (some ⟨g, k * 3, none⟩) (n + 1 - k) sc]).run Try.prog W = .ok (goInt (Nat.min (n + 1 - k) (n - k))) (W.setCells g (k * 3 + 3) (X.drop (k * 3))) := fun W hW ty dc sc => by
    subst hW
    rw [show (k + 1) * 3 = k * 3 + 3 by omega]
    exact run_copyS _ _ _ ty 44 3 g (k * 3 + 3) (n - k) dc ⟨g, k * 3, none⟩ (n + 1 - k) sc (X.drop (k * 3)) Try.underlying27 hsz (by rw [hdl, show Nat.min (n + 1 - k) (n - k) = n - k from Nat.min_eq_right (by omega)])
      (fun j v hj => by rw [addr_add]; exact Hcell.out _ v (get_drop_of hj))
      (fun j hj => by obtain ⟨u, hu⟩ := own_cell o1' (j := k * 3 + 3 + j) (by omega); rw [hu]; rfl) (fun j hj => World.ownsRow.frozenAt o1' _) (fun v hv => H1X.out v (List.mem_of_mem_drop hv))
  have hcpB : ∀ (W : World), W = w.drew.setCells g (k * 3 + 3) (X.drop (k * 3)) → ∀ ty dc, (Builtin.copy_ #[27, 27] ty #[.slice (some ⟨g, k * 3, none⟩) (n + 1 - k) dc, .slice (some ⟨w0.heap.size, 0, none⟩) 1 1]).run Try.prog W = .ok (goInt (Nat.min 1 (n + 1 - k))) (W.setCells g (k * 3) C) := fun W hW ty dc => by
    subst hW
    exact run_copyS _ _ _ ty 44 3 g (k * 3) (n + 1 - k) dc ⟨w0.heap.size, 0, none⟩ 1 1 C Try.underlying27 hsz (by rw [Hxl, show Nat.min 1 (n + 1 - k) = 1 from Nat.min_eq_left (by omega)])
      (fun j v hj => by
        rw [addr_add, Nat.zero_add, World.cell?_of_block (w := w.drew) (s1.2.block w0.heap.size (by show _ < w.heap.size; omega) (by simp; omega))]
        exact Hvc.out j v hj)
      (fun j hj => by obtain ⟨u, hu⟩ := own_cell s1.1 (j := k * 3 + j) (by omega); rw [hu]; rfl) (fun j hj => World.ownsRow.frozenAt s1.1 _) H1C.out
  have hfin : Hid (InsQ w0 base n k L x (.returned (.slice (some ⟨g, 0, none⟩) (n + 1) c)) ((w.drew.setCells g (k * 3 + 3) (X.drop (k * 3))).setCells g (k * 3) C)) := by
    refine ⟨_, _, rfl, s2.1, fun u hu hub => ?_⟩
    have q0 : Gw u w.drew := (Gw.trans hu h.gw).drew
    have q1 := q0.grown s1.2 (fun b hb' => by simp at hb'; subst hb'; omega)
    exact q1.grown s2.2 (fun b hb' => by simp at hb'; subst hb'; omega)
  have hci : ¬ (c = k) := by omega
  have hci1 : ¬ (c = k + 1) := by omega
  have hw1 : IntKind.i64.wrap ((k : Int) + 1) = (k : Int) + 1 := IntWalk.i64_in _ (by omega)
  have hb1 : (0 : Int) ≤ (k : Int) + 1 := by omega
  have hin : k ≤ n := by omega
  have htn : ((k : Int) + 1).toNat = k + 1 := by omega
  have hb3 : (k : Int) ≤ (n : Int) + 1 := by omega
  have hb4 : (k : Int) + 1 ≤ (n : Int) + 1 := by omega
  have hb5 : (n : Int) + 1 ≤ (c : Int) := by omega
  clear Hcell Hvc H1X H1C HX hXd hCd hown Hxl hsw hgl hsa hfz hsb o1 o1' s1 s2 l1 hdl hYl hfi
  have HcpA := Lib.hid hcpA
  have HcpB := Lib.hid hcpB
  have Hov := Lib.hid hov
  clear hcpA hcpB hov
  go_enter Try.func50, Try.ntmps50
  have hov := Hov.out
  go_wp2_with (simp only [hov])
  clear hov
  go_region_held3 (fun u => w = u ∨ True) (first | exact .inr trivial | go_keep)
    (first
      | (refine step_copyS rfl (.tmp 73) (.tmp 76) 27 27 (by rfl) (.slice (some ⟨g, (k + 1) * 3, none⟩) (n - k) (c - (k + 1))) (.slice (some ⟨g, k * 3, none⟩) (n + 1 - k) (c - k)) (by rfl) (by rfl) (HcpA.out _ rfl _ _ _) ?_)
      | fail)
  go_wp2_with (refine wpList_copyS _ rfl (.tmp 80) (.tmp 81) 27 27 rfl _ _ rfl rfl (HcpB.out _ rfl _ _) ?_)
  go_ret
  exact hfin.out
theorem i_Insert (w0 w : World) (base g c n k : Nat) (L : List Sec) (x : Sec) (h : InsAt w0 w base g c n k L x) :
    Calls Try.prog 50 #[.slice (some ⟨g, 0, none⟩) n c, .int .i64 k, .slice (some ⟨w0.heap.size, 0, none⟩) 1 1] w (InsQ w0 base n k L x) := by
  by_cases hk : k = n
  · subst hk; exact i_Insert_end w0 w base g c k L x h
  · have := h.hk
    by_cases hc : c < n + 1
    · exact i_Insert_grow w0 w base g c n k L x h (by omega) hc
    · exact i_Insert_room w0 w base g c n k L x h (by omega) (by omega)
end Go.Proofs.Ytopaekijhkfhpaa
