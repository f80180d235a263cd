/-
  slices.Insert of one section: where there is room, and where there is none.
-/
import Derived.Test.YtopaekijhkfhpaaIns
namespace Go.Proofs.Ytopaekijhkfhpaa
open Go.RowKit

theorem addr_add (b o j : Nat) : (⟨b, o, none⟩ : Addr).add j = ⟨b, o + j, none⟩ := by unfold Addr.add; split <;> simp_all
theorem get_drop_of {α : Type} {l : List α} {a j : Nat} {v : α} (h : (l.drop a)[j]? = some v) : l[a + j]? = some v := by rwa [List.getElem?_drop] at h

set_option maxHeartbeats 4000000 in
set_option maxRecDepth 100000 in
theorem i_Insert_grow (w0 w : World) (base g c n k : Nat) (L : List Sec) (x : Sec) (h : InsAt w0 w base g c n k L x) (hkn : k < n) (hcn : c < n + 1) :
    Calls Try.prog 50 #[.slice (some ⟨g, 0, none⟩) n c, .int .i64 k, .slice (some ⟨w0.heap.size, 0, none⟩) 1 1] w (InsQ w0 base n k L x) := by
  obtain ⟨i0, hi, hz0, hz1, hz2⟩ := info_parts infoSection
  obtain ⟨hc1, hc2⟩ := h.cap
  have hgl := h.g_lt
  have hn := h.hn
  have hb0 := h.hb
  obtain rfl : n = c := by omega
  have hsw : w.heap.size = w0.heap.size + 1 := by rw [h.hw]; simp
  have HX : Hid ((flat L).length = n * 3) := by unfold Hid; rw [flat_len, h.hL]; rfl
  have Hxl : (Flat.cells x).length = 3 := Flat.len x
  obtain ⟨X, hXd⟩ : ∃ X, X = flat L := ⟨_, rfl⟩
  have HXd := Lib.hid hXd
  obtain ⟨C, hCd⟩ : ∃ C, C = Flat.cells x := ⟨_, rfl⟩
  have HCd := Lib.hid hCd
  have hown := h.own1
  rw [← hXd] at HX hown
  rw [← hCd] at Hxl
  have Hcell : Hid (∀ j v, X[j]? = some v → w.cell? ⟨g, j, none⟩ = some v) := fun j v hj => by
    have hjl := (List.getElem?_eq_some_iff.1 hj).1
    rw [World.ownsRow.cellAt hown j (by have := HX.out; omega)]; exact hj
  have Hvc : Hid (∀ j v, C[j]? = some v → w.cell? ⟨w0.heap.size, j, none⟩ = some v) := fun j v hj => by
    have := h.cells j v (by rw [← hCd]; exact hj)
    rwa [addr_add, Nat.zero_add] at this
  have H1X : Hid (∀ v ∈ X, v.oneCell' = true) := by unfold Hid; rw [hXd]; exact flat_cell L
  have H1C : Hid (∀ v ∈ C, v.oneCell' = true) := by unfold Hid; rw [hCd]; exact Flat.one x
  have hk3 : k * 3 ≤ n * 3 := by omega
  -- the new row
  have hold : (Builtin.firstCells i0.size k (.slice (some ⟨g, 0, none⟩) k n)).run Try.prog w.drew = .ok (X.take (k * 3)).toArray w.drew := by
    rw [hz1]
    exact run_firstCells_some (w := w.drew) 3 k ⟨g, 0, none⟩ k n (X.take (k * 3)) (by rw [List.length_take, HX.out]; omega) (fun j v hj => by
      rw [addr_add, Nat.zero_add]
      rw [List.getElem?_take] at hj
      split at hj
      · exact Hcell.out j v hj
      · cases hj)
  have hkk : (n : Int) + 1 - (k : Int) = ((n + 1 - k : Nat) : Int) := by omega
  have hik : k + (n + 1 - k) = n + 1 := by omega
  obtain ⟨G, hG⟩ : ∃ G, G = grownCap w (n + 1) n 44 := ⟨_, rfl⟩
  obtain ⟨Z, hZ⟩ : ∃ Z : Array Value, Z = Builtin.zeroCells (Value.agg #[.string ByteArray.empty, .int .i64 0, .int .i64 0]).cells (n + 1 - k) := ⟨_, rfl⟩
  obtain ⟨Y, hY⟩ : ∃ Y : Array Value, Y = Builtin.zeroCells (Value.agg #[.string ByteArray.empty, .int .i64 0, .int .i64 0]).cells (G - (n + 1)) := ⟨_, rfl⟩
  have hrz : ∀ ty, (Builtin.append_ #[27, 3] ty #[.slice (some ⟨g, 0, none⟩) k n, .int .i64 ((n : Int) + 1 - (k : Int))]).run Try.prog w =
      .ok (.slice (some ⟨w.heap.size, 0, none⟩) (n + 1) G) (w.drew.alloc (.cells ((X.take (k * 3)).toArray ++ Z ++ Y) 44)) := fun ty => by
    have hh := Lib.run_append_grow_zeros w 27 3 ty 44 i0 _ .i64 .i64 Try.underlying27 Try.underlying3 hi hz0 (some ⟨g, 0, none⟩) k n (X.take (k * 3)) hold (n + 1 - k) (by omega) (by omega) (by omega) (by omega) (by rw [hz2]; omega) (by rw [hz2, hik]; exact growslice_fits (by omega) (by omega))
    rw [hik] at hh
    rw [hkk, hG, hZ, hY, hG]
    exact hh
  have hGn : n + 1 ≤ G := by rw [hG]; exact grownCap_ge w _ _ _
  have hGm : G ≤ maxLen := by rw [hG]; exact grownCap_le_maxLen w _ _ _ (by unfold maxLen; omega)
  have hG63 : G ≤ 9223372036854775807 := by have := hGm; unfold maxLen at this; omega
  have hZl : Z.size = (n + 1 - k) * 3 := by rw [hZ]; simp [Builtin.zeroCells, Value.cells]
  have hZt : Z.toList.length = (n + 1 - k) * 3 := by rw [Array.length_toList, hZl]
  have hfi : X.take (k * 3) ++ C ++ X.drop (k * 3) = flat (L.take k ++ [x] ++ L.drop k) := by rw [hXd, hCd]; exact flat_ins L k x (by rw [h.hL]; omega)
  have hYl : Y.size = (G - (n + 1)) * 3 := by rw [hY]; simp [Builtin.zeroCells, Value.cells]
  have hxt : (X.take (k * 3)).length = k * 3 := by rw [List.length_take, HX.out]; omega
  have hcurl : ((X.take (k * 3)).toArray ++ Z ++ Y).size = G * 3 := by simp only [Array.size_append, List.size_toArray, hxt, hZl, hYl]; omega
  obtain ⟨W1, hW1⟩ : ∃ W1, W1 = w.drew.alloc (.cells ((X.take (k * 3)).toArray ++ Z ++ Y) 44) := ⟨_, rfl⟩
  have o1 : W1.ownsRow base 44 3 (.slice (some ⟨w.heap.size, 0, none⟩) (n + 1) G) (n + 1) (X.take (k * 3) ++ Z.toList) := by
    have := own_alloc w.drew (base := base) (e := 44) (size := 3) (n := n + 1) (c := G) ((X.take (k * 3)).toArray ++ Z ++ Y) (by show base ≤ w.heap.size; omega) hcurl hGn hGm
    rw [hW1]
    have e : (((X.take (k * 3)).toArray ++ Z ++ Y).toList).take ((n + 1) * 3) = X.take (k * 3) ++ Z.toList := by
      simp only [Array.toList_append]
      have hl : (X.take (k * 3) ++ Z.toList).length = (n + 1) * 3 := by rw [List.length_append, hxt, Array.length_toList, hZl]; omega
      rw [← hl]
      exact List.take_left
    rw [e] at this
    exact this
  have gr1 : ∀ u, Gw u w → Gw u W1 := fun u hu => by rw [hW1]; exact hu.drew.alloc _
  have c1 : ∀ b j v, b < w.heap.size → w.cell? ⟨b, j, none⟩ = some v → W1.cell? ⟨b, j, none⟩ = some v := fun b j v hb hc => by rw [(gr1 w (Gw.refl w)).cells b j hb]; exact hc
  have fr1 : ∀ j, W1.frozen? ⟨w.heap.size, j, none⟩ = false := fun j => World.ownsRow.frozenAt o1 j
  have hsz : (Try.prog.info? 44).map (·.size) = some 3 := by rw [hi]; simp [hz1]
  have s1 := own_setCells C (k * 3) o1 (by rw [List.length_append, hxt, hZt, Hxl]; omega)
  have l1 := s1.1.1
  have s2 := own_setCells (X.drop (k * 3)) (k * 3 + C.length) s1.1 (by rw [l1, List.length_drop, HX.out, Hxl]; omega)
  rw [ins_grow (X := X) (Z := Z.toList) (C := C) (a := k * 3) (by rw [HX.out]; omega) (by rw [hZt, HX.out, Hxl]; omega), hfi] at s2
  rw [Hxl] at s2
  have hcpA : ∀ (W : World), W = W1 → ∀ ty dc, (Builtin.copy_ #[27, 27] ty #[.slice (some ⟨w.heap.size, k * 3, none⟩) (n + 1 - k) dc, .slice (some ⟨w0.heap.size, 0, none⟩) 1 1]).run Try.prog W = .ok (goInt (Nat.min 1 (n + 1 - k))) (W1.setCells w.heap.size (k * 3) C) := fun W hW ty dc => by
    subst hW
    exact run_copyS W _ _ ty 44 3 w.heap.size (k * 3) (n + 1 - k) dc ⟨w0.heap.size, 0, none⟩ 1 1 C Try.underlying27 hsz (by rw [Hxl, show Nat.min 1 (n + 1 - k) = 1 from Nat.min_eq_left (by omega)])
      (fun j v hj => by rw [addr_add, Nat.zero_add]; exact c1 _ _ _ (by omega) (Hvc.out j v hj))
      (fun j hj => by obtain ⟨u, hu⟩ := own_cell o1 (j := k * 3 + j) (by omega); rw [hu]; rfl) (fun j hj => fr1 _) H1C.out
  have hdl : (X.drop (k * 3)).length = (n - k) * 3 := by rw [List.length_drop, HX.out]; omega
  have hcpB : ∀ (W : World), W = (W1.setCells w.heap.size (k * 3) C).drew → ∀ ty dc sc, (Builtin.copy_ #[27, 27] ty #[.slice (some ⟨w.heap.size, (k + 1) * 3, none⟩) (n - k) dc, .slice (some ⟨g, k * 3, none⟩) (n - k) sc]).run Try.prog W = .ok (goInt (Nat.min (n - k) (n - k))) (W.setCells w.heap.size (k * 3 + 3) (X.drop (k * 3))) := fun W hW ty dc sc => by
    subst hW
    rw [show (k + 1) * 3 = k * 3 + 3 by omega]
    exact run_copyS _ _ _ ty 44 3 w.heap.size (k * 3 + 3) (n - k) dc ⟨g, k * 3, none⟩ (n - k) sc (X.drop (k * 3)) Try.underlying27 hsz (by rw [hdl, show Nat.min (n - k) (n - k) = n - k from Nat.min_self _])
      (fun j v hj => by
        rw [addr_add]
        have hg1 : (W1.setCells w.heap.size (k * 3) C).drew.cell? ⟨g, k * 3 + j, none⟩ = W1.cell? ⟨g, k * 3 + j, none⟩ := by
          show (W1.setCells w.heap.size (k * 3) C).cell? _ = _
          exact World.cell?_of_block (s1.2.block g (by have := (gr1 w (Gw.refl w)).size; omega) (by simp; omega))
        rw [hg1]
        exact c1 _ _ _ (by omega) (Hcell.out _ v (get_drop_of hj)))
      (fun j hj => by obtain ⟨u, hu⟩ := own_cell s1.1.drew (j := k * 3 + 3 + j) (by omega); rw [hu]; rfl) (fun j hj => World.ownsRow.frozenAt s1.1.drew _) (fun v hv => H1X.out v (List.mem_of_mem_drop hv))
  have hfin : Hid (InsQ w0 base n k L x (.returned (.slice (some ⟨w.heap.size, 0, none⟩) (n + 1) G)) ((W1.setCells w.heap.size (k * 3) C).drew.setCells w.heap.size (k * 3 + 3) (X.drop (k * 3)))) := by
    rw [← drewS]
    refine ⟨_, _, rfl, s2.1.drew, fun u hu hub => ?_⟩
    have q0 := gr1 u (Gw.trans hu h.gw)
    have q1 := q0.grown s1.2 (fun b hb' => by simp at hb'; subst hb'; omega)
    exact (q1.grown s2.2 (fun b hb' => by simp at hb'; subst hb'; omega)).drew
  rw [← hW1] at hrz
  have hGi : ¬ (G = k) := by omega
  have hGim : ¬ (G = k + 1) := by omega
  have hci : ¬ (n = k) := by omega
  have hw1 : IntKind.i64.wrap ((k : Int) + 1) = (k : Int) + 1 := IntWalk.i64_in _ (by omega)
  have hb1 : (0 : Int) ≤ (k : Int) + 1 := by omega
  have hin : k ≤ n := by omega
  have htn : ((k : Int) + 1).toNat = k + 1 := by omega
  have hb3 : (k : Int) ≤ (n : Int) := by omega
  have hb4 : (k : Int) + 1 ≤ (n : Int) + 1 := by omega
  clear hkk hik hold hW1 hG hZ hY hZl hZt hfi hYl hxt hcurl o1 gr1 c1 fr1 s1 s2 l1 hdl Hcell Hvc H1X H1C HX HXd HCd hXd hCd hown Hxl hsw hgl
  have HcpA := Lib.hid hcpA
  have HcpB := Lib.hid hcpB
  have Hrz := Lib.hid hrz
  clear hcpA hcpB hrz
  go_enter Try.func50, Try.ntmps50
  go_wp2_with (first | (at_builtin; refine Lib.wpList_append_run _ rfl _ _ _ _ rfl _ _ rfl rfl _ _ (Hrz.out _) ?_) | (refine wpList_copyS _ rfl (.tmp 43) (.tmp 44) 27 27 rfl _ _ rfl rfl (HcpA.out _ rfl _ _) ?_))
  go_region_held3 (fun u => w = u ∨ True) (first | exact .inr trivial | go_keep)
    (first
      | (refine step_copyS rfl (.tmp 50) (.tmp 53) 27 27 (by rfl) (.slice (some ⟨w.heap.size, (k + 1) * 3, none⟩) (n - k) (G - (k + 1))) (.slice (some ⟨g, k * 3, none⟩) (n - k) (n - k)) (by rfl) (by rfl) (HcpB.out _ rfl _ _ _) ?_)
      | fail)
  go_wp2_with fail
  go_ret
  exact hfin.out
end Go.Proofs.Ytopaekijhkfhpaa
