/-
  drop: the walk.
-/
import Derived.Test.YtcgjhloiokpicaaMf
namespace Go.Proofs.Ytcgjhloiokpicaa
open Go.RowKit
set_option linter.unusedVariables false
set_option linter.unusedSimpArgs false
theorem eth_set (l : List En) (k j : Nat) (x : En) (hk : k < l.length) : eth (l.set k x) j = if k = j then x else eth l j := by
  unfold eth
  rw [List.getD_eq_getElem?_getD, List.getD_eq_getElem?_getD, List.getElem?_set]
  by_cases h : k = j
  · subst h
    rw [if_pos rfl, if_pos hk, if_pos rfl]
    rfl
  · rw [if_neg h, if_neg h]
theorem MA.setE {lk size : Int} {W : World} {g b n c : Nat} {l : List En} (h : MA lk W g size (.slice (some ⟨b, 0, none⟩) n c) l) {k j : Nat} (hk : k < l.length) (hj : j < 4) (u : Value) (x : En) (hx : ∀ i, i < 4 → x.cells[i]? = if i = j then some u else (eth l k).cells[i]?) : MA lk (W.setCell ⟨b, k * 4 + j, none⟩ u) g size (.slice (some ⟨b, 0, none⟩) n c) (l.set k x) := by
  have hl := h.own.1
  have hn : n = l.length := by
    rcases h.own.2 with ⟨hv, _⟩ | ⟨_, _, _, hv, _⟩
    · cases hv
    · injection hv
  subst hn
  obtain ⟨q, h1, h2, h3⟩ := h
  have hb : b ≠ g := fun e => h3 (by rw [e]; rfl)
  refine ⟨q, (heap_setCell_other _ _ g _ (by exact Ne.symm hb)).trans h1, ?_, h3⟩
  have := own_setE (u := u) h2 (o := k * 4 + j) (by omega)
  rw [ents_set l k j u hk hj x hx] at this
  rw [List.length_set]
  exact this
theorem MT.setE {g b : Nat} {v v' : Value} {w W : World} (h : MT g v v' w W) (hb : v'.ownBlock = some b) (o : Nat) (u : Value) : MT g v v' w (W.setCell ⟨b, o, none⟩ u) := by
  refine ⟨h.1, h.2.1, h.2.2.1, by simpa using h.2.2.2.1, fun k hk hg hv => (heap_setCell_other _ _ k _ (fun e => ?_)).trans (h.2.2.2.2.1 k hk hg hv), h.2.2.2.2.2⟩
  have e : k = b := e
  rcases h.2.2.2.2.2 with e2 | e2
  · exact hv (by rw [← e2, hb, e])
  · have := e2 b hb
    omega
/-- The cells of an entry in a row that lies at its block's head. -/
theorem MA.ent {lk size : Int} {W : World} {g b n c : Nat} {l : List En} (h : MA lk W g size (.slice (some ⟨b, 0, none⟩) n c) l) {k : Nat} (hk : k < l.length) : W.cell? ⟨b, k * 4, none⟩ = some (.int .i64 (eth l k).block) ∧ W.cell? ⟨b, k * 4 + 1, none⟩ = some (.int .i64 (eth l k).blocks) ∧ W.cell? ⟨b, k * 4 + 2, none⟩ = some (.int .i64 (eth l k).kind) ∧ W.cell? ⟨b, k * 4 + 3, none⟩ = some (.string (eth l k).s) := by
  have hn : n = l.length := by
    rcases h.own.2 with ⟨hv, _⟩ | ⟨_, _, _, hv, _⟩
    · cases hv
    · injection hv
  subst hn
  have ha : ∀ o, (⟨b, 0, none⟩ : Addr).add o = ⟨b, o, none⟩ := fun o => by unfold Addr.add; split <;> simp_all
  have hc := fun j (hj : j < 4) u hu => own_ent h.own hk hj (u := u) hu
  simp only [ha] at hc
  rw [eth_get hk]
  exact ⟨hc 0 (by decide) _ rfl, hc 1 (by decide) _ rfl, hc 2 (by decide) _ rfl, hc 3 (by decide) _ rfl⟩
theorem MA.rowfree {lk size : Int} {W : World} {g b n c : Nat} {l : List En} (h : MA lk W g size (.slice (some ⟨b, 0, none⟩) n c) l) (o : Nat) : W.frozen? ⟨b, o, none⟩ = false := by
  rcases h.own.2 with ⟨hv, _⟩ | ⟨g', cap, cur, hv, _, hg, _⟩
  · cases hv
  · injection hv with e1
    injection e1 with e1
    injection e1 with e1
    subst e1
    exact Lib.frozen_of_heap hg o
theorem MA.slice {lk size : Int} {W : World} {g : Nat} {v : Value} {l : List En} (h : MA lk W g size v l) (hl : 0 < l.length) : ∃ b c, v = .slice (some ⟨b, 0, none⟩) l.length c ∧ l.length ≤ c ∧ c ≤ 9223372036854775807 ∧ b ≠ g ∧ b < W.heap.size := by
  obtain ⟨b, c, cur, rfl, hg, hn, hc, _⟩ := own_open h.own hl
  exact ⟨b, c, rfl, hn, hc, fun e => h.ne (by rw [e]; rfl), (Array.getElem?_eq_some_iff.1 hg).1⟩
theorem MA.same {lk size : Int} {W : World} {g : Nat} {v : Value} {l l' : List En} (h : MA lk W g size v l) (e : l = l') : MA lk W g size v l' := e ▸ h
theorem dr1_len (l : List En) (i : Nat) : (dr1 l i).length = l.length := by unfold dr1; rw [List.length_set]
theorem dr1_blocks (l : List En) (i k : Nat) (hi : i < l.length) : (eth (dr1 l i) k).blocks = (eth l k).blocks := by
  unfold dr1
  rw [eth_set _ _ _ _ hi]
  by_cases h : i = k
  · subst h; rw [if_pos rfl]; rfl
  · rw [if_neg h]
theorem eth_erase (l : List En) (j k : Nat) : eth (l.eraseIdx j) k = if k < j then eth l k else eth l (k + 1) := by
  unfold eth
  rw [List.getD_eq_getElem?_getD, List.getD_eq_getElem?_getD, List.getD_eq_getElem?_getD, List.getElem?_eraseIdx]
  by_cases h : k < j
  · rw [if_pos h, if_pos h]
  · rw [if_neg h, if_neg h]
theorem dr2_len (l : List En) (i : Nat) (hi : i < l.length) : i < (dr2 l i).length ∧ (dr2 l i).length ≤ l.length := by
  unfold dr2
  by_cases h : i + 1 < l.length ∧ (eth l (i + 1)).kind = 0
  · rw [if_pos h, List.length_eraseIdx, List.length_set, if_pos h.1]; omega
  · rw [if_neg h]; omega
theorem dr2_blocks (l : List En) (i k : Nat) (hk : k < (dr2 l i).length) (hi : i < l.length) (h : ∀ k, k < l.length → 0 ≤ (eth l k).blocks ∧ (eth l k).blocks ≤ 4096) : 0 ≤ (eth (dr2 l i) k).blocks ∧ (eth (dr2 l i) k).blocks ≤ 8192 := by
  unfold dr2 at hk ⊢
  by_cases hc : i + 1 < l.length ∧ (eth l (i + 1)).kind = 0
  · rw [if_pos hc] at hk ⊢
    rw [List.length_eraseIdx, List.length_set, if_pos hc.1] at hk
    rw [eth_erase]
    by_cases h2 : k < i + 1
    · rw [if_pos h2, eth_set _ _ _ _ hi]
      by_cases h3 : i = k
      · rw [if_pos h3]
        have h4 := h i hi
        have h5 := h (i + 1) hc.1
        show 0 ≤ (eth l i).blocks + (eth l (i + 1)).blocks ∧ (eth l i).blocks + (eth l (i + 1)).blocks ≤ 8192
        omega
      · rw [if_neg h3]
        have := h k (by omega)
        omega
    · rw [if_neg h2, eth_set _ _ _ _ hi, if_neg (by omega)]
      have := h (k + 1) (by omega)
      omega
  · rw [if_neg hc] at hk ⊢
    have := h k hk
    omega
theorem dr3_len (l : List En) (i : Nat) (hi : i < l.length) : 0 < (dr3 l i).length ∧ (dr3 l i).length ≤ l.length := by
  unfold dr3
  by_cases h : 0 < i ∧ (eth l (i - 1)).kind = 0
  · rw [if_pos h, List.length_eraseIdx, List.length_set, if_pos hi]; omega
  · rw [if_neg h]; omega
/-- One entry grows, the one behind it goes. -/
theorem grow_cells (x : En) (n : Int) : ∀ k, k < 4 → (grow x n).cells[k]? = if k = 1 then some (.int .i64 (x.blocks + n)) else x.cells[k]? := by
  intro k hk
  rcases k with _ | _ | _ | _ | k
  · rfl
  · rfl
  · rfl
  · rfl
  · omega
theorem MA.cut {lk size : Int} {W : World} {g b c : Nat} {l : List En} (h : MA lk W g size (.slice (some ⟨b, 0, none⟩) l.length c) l) : MA lk (W.setCell ⟨g, 3, none⟩ (.slice (some ⟨b, 0, none⟩) (l.length - 1) c)) g size (.slice (some ⟨b, 0, none⟩) (l.length - 1) c) (l.take (l.length - 1)) := by
  have hne := h.ne
  have ho := own_takeE h.own (m := l.length - 1) (by omega)
  obtain ⟨q, h1, _, _⟩ := h
  refine ⟨q, by simp [World.setCell, Array.getElem?_modify, h1], ?_, hne⟩
  have e : (l.take (l.length - 1)).length = l.length - 1 := by rw [List.length_take]; omega
  rw [e]
  exact own_set ho hne 3 _
theorem MT.cut {lk size : Int} {g b n m c : Nat} {v v' : Value} {l : List En} {w W : World} (h : MT g v v' w W) (hM : MA lk W g size v' l) (e : v' = .slice (some ⟨b, 0, none⟩) n c) (u : Value) : MT g v (.slice (some ⟨b, 0, none⟩) m c) w (W.setCell ⟨g, 3, none⟩ u) := by
  have h2 := h.set 3 u
  subst e
  exact h2
set_option maxRecDepth 100000 in
set_option maxHeartbeats 4000000 in
theorem drop_any (lk size : Int) (g : Nat) (v : Value) (l : List En) (i : Nat) (w : World) (h : MA lk w g size v l) (hi : i < l.length) (hll : l.length ≤ 5000) (hin : ∀ k, k < l.length → 0 ≤ (eth l k).blocks ∧ (eth l k).blocks ≤ 4096) :
    Calls Try.prog 59 #[.pointer (some ⟨g, 0, none⟩), .int .i64 i] w fun e w' => e = .returned (.tuple #[]) ∧ ∃ v', MA lk w' g size v' (dropL l i) ∧ MT g v v' w w' := by
  obtain ⟨b, c, rfl, hnc, hc, hbg, hbl⟩ := h.slice (by omega)
  have c3 := h.c3
  obtain ⟨x0, x1, x2, x3⟩ := h.ent hi
  have f2 := h.rowfree (i * 4 + 2)
  have f3 := h.rowfree (i * 4 + 3)
  have hii : (i : Int) < (l.length : Int) := by omega
  have lg := World.block_lt_of_cell? w _ c3
  have hM1 : Hid (MA lk (((w.setCell ⟨b, i * 4 + 2, none⟩ (.int .i64 0)).setCell ⟨b, i * 4 + 3, none⟩ (.string ⟨#[]⟩)).drew) g size (.slice (some ⟨b, 0, none⟩) l.length c) (dr1 l i)) := by
    have h1 := h.setE hi (j := 2) (by decide) (.int .i64 0) ⟨(eth l i).block, (eth l i).blocks, 0, (eth l i).s⟩ (fun k hk => by
      rcases k with _ | _ | _ | _ | k <;> first | rfl | omega)
    have h2 := h1.setE (k := i) (by simpa using hi) (j := 3) (by decide) (.string ⟨#[]⟩) (fre (eth l i)) (fun k hk => by
      rw [eth_set _ _ _ _ hi, if_pos rfl]
      rcases k with _ | _ | _ | _ | k <;> first | rfl | omega)
    rw [List.set_set] at h2
    exact h2.ext (Ext.refl _).drew_right
  have hT1 : Hid (MT g (.slice (some ⟨b, 0, none⟩) l.length c) (.slice (some ⟨b, 0, none⟩) l.length c) w (((w.setCell ⟨b, i * 4 + 2, none⟩ (.int .i64 0)).setCell ⟨b, i * 4 + 3, none⟩ (.string ⟨#[]⟩)).drew)) :=
    (((MT.refl g _ w).setE rfl _ _).setE rfl _ _).right (Ext.refl _).drew_right
  clear h
  go_enter Try.func59, Try.ntmps59
  go_upto_region 0 with fail
  go_region
  generalize ((w.setCell ⟨b, i * 4 + 2, none⟩ (.int .i64 0)).setCell ⟨b, i * 4 + 3, none⟩ (.string ⟨#[]⟩)).drew = w1 at *
  have hl1 := dr1_len l i
  have hi1 : i < (dr1 l i).length := by omega
  have hb1 : Hid (∀ k, k < (dr1 l i).length → 0 ≤ (eth (dr1 l i) k).blocks ∧ (eth (dr1 l i) k).blocks ≤ 4096) := fun k hk => by rw [dr1_blocks l i k hi]; exact hin k (by omega)
  have hD : Hid (dropL l i = dr4 (dr3 (dr2 (dr1 l i) i) i)) := rfl
  rw [← hl1] at hM1
  generalize dr1 l i = l1 at *
  rw [hl1] at hM1
  clear c3 x0 x1 x2 x3 f2 f3 hii lg hin hbl
  go_upto_region 1 with fail
  rename_i K1 aK1 K0 aK0
  have hrest : ∀ (u2 u3 u4 u5 u6 u7 u8 u9 u10 u11 u12 u13 u14 u15 u16 u17 u18 u19 u20 u21 u22 u23 u24 u25 u26 u27 u28 u29 u30 u31 u32 u33 u34 u35 u36 u37 u38 u39 u40 u41 u42 u43 u44 u45 u46 u47 u48 u49 u50 u51 u52 u53 u54 u55 u56 u57 u58 u59 u60 u61 u62 u63 u64 u65 u66 u67 u68 u69 u70 u71 u72 u73 u74 u75 u76 u77 u78 u79 u80 u81 u82 u83 u84 u85 u86 u87 u88 u89 u90 u91 u92 u93 u94 u95 u96 u97 u98 u99 u100 u101 u102 u103 u104 u105 u106 u107 u108 u109 u110 u111 u112 u113 u114 u115 u116 u117 u118 u119 u120 u121 u122 u123 u124 u125 u126 u127 u128 u129 u130 u131 u132 u133 u134 u135 u136 u137 u138 u139 : Value) (w2 : World), (∃ v2, MA lk w2 g size v2 (dr2 l1 i) ∧ MT g (Value.slice (some ⟨b, 0, none⟩) l.length c) v2 w w2) → K1 { tmps := #[.pointer (some ⟨g, 0, none⟩), .int .i64 i, u2, u3, u4, u5, u6, u7, u8, u9, u10, u11, u12, u13, u14, u15, u16, u17, u18, u19, u20, u21, u22, u23, u24, u25, u26, u27, u28, u29, u30, u31, u32, u33, u34, u35, u36, u37, u38, u39, u40, u41, u42, u43, u44, u45, u46, u47, u48, u49, u50, u51, u52, u53, u54, u55, u56, u57, u58, u59, u60, u61, u62, u63, u64, u65, u66, u67, u68, u69, u70, u71, u72, u73, u74, u75, u76, u77, u78, u79, u80, u81, u82, u83, u84, u85, u86, u87, u88, u89, u90, u91, u92, u93, u94, u95, u96, u97, u98, u99, u100, u101, u102, u103, u104, u105, u106, u107, u108, u109, u110, u111, u112, u113, u114, u115, u116, u117, u118, u119, u120, u121, u122, u123, u124, u125, u126, u127, u128, u129, u130, u131, u132, u133, u134, u135, u136, u137, u138, u139], defers := [] } w2 := by
    intro u2 u3 u4 u5 u6 u7 u8 u9 u10 u11 u12 u13 u14 u15 u16 u17 u18 u19 u20 u21 u22 u23 u24 u25 u26 u27 u28 u29 u30 u31 u32 u33 u34 u35 u36 u37 u38 u39 u40 u41 u42 u43 u44 u45 u46 u47 u48 u49 u50 u51 u52 u53 u54 u55 u56 u57 u58 u59 u60 u61 u62 u63 u64 u65 u66 u67 u68 u69 u70 u71 u72 u73 u74 u75 u76 u77 u78 u79 u80 u81 u82 u83 u84 u85 u86 u87 u88 u89 u90 u91 u92 u93 u94 u95 u96 u97 u98 u99 u100 u101 u102 u103 u104 u105 u106 u107 u108 u109 u110 u111 u112 u113 u114 u115 u116 u117 u118 u119 u120 u121 u122 u123 u124 u125 u126 u127 u128 u129 u130 u131 u132 u133 u134 u135 u136 u137 u138 u139 w2 hR
    refine aK1 _ _ ?_
    clear K0 aK0 aK1 K1 hM1 hT1
    obtain ⟨v2, hM, hT⟩ := hR
    obtain ⟨hi2, hle2⟩ := dr2_len l1 i hi1
    have hb2 : Hid (∀ k, k < (dr2 l1 i).length → 0 ≤ (eth (dr2 l1 i) k).blocks ∧ (eth (dr2 l1 i) k).blocks ≤ 8192) := fun k hk => dr2_blocks l1 i k hk hi1 hb1.out
    have hle1 : l1.length ≤ 5000 := by omega
    clear hb1 hl1
    generalize dr2 l1 i = l2 at *
    obtain ⟨b2, c2, rfl, hnc2, hc2, hbg2, hbl2⟩ := hM.slice (by omega)
    replace hM := hid hM
    replace hT := hid hT
    go_upto_region 4 with fail
    rename_i K3 aK3 K2 aK2
    have hrest3 : ∀ (u2 u3 u4 u5 u6 u7 u8 u9 u10 u11 u12 u13 u14 u15 u16 u17 u18 u19 u20 u21 u22 u23 u24 u25 u26 u27 u28 u29 u30 u31 u32 u33 u34 u35 u36 u37 u38 u39 u40 u41 u42 u43 u44 u45 u46 u47 u48 u49 u50 u51 u52 u53 u54 u55 u56 u57 u58 u59 u60 u61 u62 u63 u64 u65 u66 u67 u68 u69 u70 u71 u72 u73 u74 u75 u76 u77 u78 u79 u80 u81 u82 u83 u84 u85 u86 u87 u88 u89 u90 u91 u92 u93 u94 u95 u96 u97 u98 u99 u100 u101 u102 u103 u104 u105 u106 u107 u108 u109 u110 u111 u112 u113 u114 u115 u116 u117 u118 u119 u120 u121 u122 u123 u124 u125 u126 u127 u128 u129 u130 u131 u132 u133 u134 u135 u136 u137 u138 u139 : Value) (w3 : World), (∃ v3, MA lk w3 g size v3 (dr3 l2 i) ∧ MT g (Value.slice (some ⟨b, 0, none⟩) l.length c) v3 w w3) → K3 { tmps := #[.pointer (some ⟨g, 0, none⟩), .int .i64 i, u2, u3, u4, u5, u6, u7, u8, u9, u10, u11, u12, u13, u14, u15, u16, u17, u18, u19, u20, u21, u22, u23, u24, u25, u26, u27, u28, u29, u30, u31, u32, u33, u34, u35, u36, u37, u38, u39, u40, u41, u42, u43, u44, u45, u46, u47, u48, u49, u50, u51, u52, u53, u54, u55, u56, u57, u58, u59, u60, u61, u62, u63, u64, u65, u66, u67, u68, u69, u70, u71, u72, u73, u74, u75, u76, u77, u78, u79, u80, u81, u82, u83, u84, u85, u86, u87, u88, u89, u90, u91, u92, u93, u94, u95, u96, u97, u98, u99, u100, u101, u102, u103, u104, u105, u106, u107, u108, u109, u110, u111, u112, u113, u114, u115, u116, u117, u118, u119, u120, u121, u122, u123, u124, u125, u126, u127, u128, u129, u130, u131, u132, u133, u134, u135, u136, u137, u138, u139], defers := [] } w3 := by
      intro u2 u3 u4 u5 u6 u7 u8 u9 u10 u11 u12 u13 u14 u15 u16 u17 u18 u19 u20 u21 u22 u23 u24 u25 u26 u27 u28 u29 u30 u31 u32 u33 u34 u35 u36 u37 u38 u39 u40 u41 u42 u43 u44 u45 u46 u47 u48 u49 u50 u51 u52 u53 u54 u55 u56 u57 u58 u59 u60 u61 u62 u63 u64 u65 u66 u67 u68 u69 u70 u71 u72 u73 u74 u75 u76 u77 u78 u79 u80 u81 u82 u83 u84 u85 u86 u87 u88 u89 u90 u91 u92 u93 u94 u95 u96 u97 u98 u99 u100 u101 u102 u103 u104 u105 u106 u107 u108 u109 u110 u111 u112 u113 u114 u115 u116 u117 u118 u119 u120 u121 u122 u123 u124 u125 u126 u127 u128 u129 u130 u131 u132 u133 u134 u135 u136 u137 u138 u139 w3 hR
      refine aK3 _ _ ?_
      clear K2 aK2 aK3 K3 hM hT hbg2 hbl2
      obtain ⟨v3, hM, hT⟩ := hR
      obtain ⟨hp3, hle3⟩ := dr3_len l2 i hi2
      generalize dr3 l2 i = l3 at *
      obtain ⟨b3, c3, rfl, hnc3, hc3, hbg3, hbl3⟩ := hM.slice hp3
      have d3 := hM.c3
      have fg := hM.free 3
      obtain ⟨z0, z1, z2, z3⟩ := hM.ent (k := l3.length - 1) (by omega)
      have lg := World.block_lt_of_cell? w3 _ d3
      dsimp only at lg
      replace hM := hid hM
      replace hT := hid hT
      have hw : IntKind.i64.wrap ((l3.length : Int) - 1) = ((l3.length - 1 : Nat) : Int) := by rw [IntWalk.i64_in _ (by omega)]; omega
      have hlt : ((l3.length - 1 : Nat) : Int) < (l3.length : Int) := by omega
      have hlt2 : l3.length - 1 ≤ c3 := by omega
      by_cases hk : (eth l3 (l3.length - 1)).kind = 0
      · have dk : ((eth l3 (l3.length - 1)).kind == 0) = true := by rw [hk]; rfl
        have hd4 : dropL l i = l3.take (l3.length - 1) := by rw [hD.out]; unfold dr4; rw [if_pos hk]
        go_wp2_with fail
        go_end0
        refine ⟨rfl, .slice (some ⟨b3, 0, none⟩) (l3.length - 1) c3, ?_, hT.out.cut hM.out rfl _⟩
        rw [hd4]
        exact hM.out.cut
      · have dk : ((eth l3 (l3.length - 1)).kind == 0) = false := by rw [beq_eq_false_iff_ne]; exact hk
        have hd4 : dropL l i = l3 := by rw [hD.out]; unfold dr4; rw [if_neg hk]
        go_wp2_with fail
        go_end0
        exact ⟨rfl, _, by rw [hd4]; exact hM.out, hT.out⟩
    clear aK3
    replace hrest3 := hid hrest3
    have c3 := hM.out.c3
    obtain ⟨y0, y1, y2, y3⟩ := hM.out.ent hi2
    have lg := World.block_lt_of_cell? w2 _ c3
    have lb := World.block_lt_of_cell? w2 _ y0
    dsimp only at lg lb
    have hilt : (i : Int) < (l2.length : Int) := by omega
    by_cases hA : 0 < i
    · have dA : (0 : Int) < (i : Int) := by omega
      have hw : IntKind.i64.wrap ((i : Int) - 1) = ((i - 1 : Nat) : Int) := by rw [IntWalk.i64_in _ (by omega)]; omega
      have hj : i - 1 < l2.length := by omega
      have hjlt : ((i - 1 : Nat) : Int) < (l2.length : Int) := by omega
      obtain ⟨z0, z1, z2, z3⟩ := hM.out.ent (k := i - 1) hj
      by_cases hk : (eth l2 (i - 1)).kind = 0
      · have dk : ((eth l2 (i - 1)).kind == 0) = true := by rw [hk]; rfl
        have f1 := hM.out.rowfree ((i - 1) * 4 + 1)
        have e1 := hb2.out i hi2
        have e2 := hb2.out (i - 1) hj
        have hsum : IntKind.i64.wrap ((eth l2 (i - 1)).blocks + (eth l2 i).blocks) = (eth l2 (i - 1)).blocks + (eth l2 i).blocks := IntWalk.i64_in _ (by omega)
        have hw2 : IntKind.i64.wrap ((i : Int) + 1) = ((i + 1 : Nat) : Int) := by rw [IntWalk.i64_in _ (by omega)]; omega
        have hM2 : Hid (MA lk (w2.setCell ⟨b2, (i - 1) * 4 + 1, none⟩ (.int .i64 ((eth l2 (i - 1)).blocks + (eth l2 i).blocks))).drew g size (.slice (some ⟨b2, 0, none⟩) l2.length c2) (l2.set (i - 1) (grow (eth l2 (i - 1)) (eth l2 i).blocks))) :=
          (hM.out.setE hj (j := 1) (by decide) _ _ (grow_cells _ _)).ext (Ext.refl _).drew_right
        have hT2 : Hid (MT g (.slice (some ⟨b, 0, none⟩) l.length c) (.slice (some ⟨b2, 0, none⟩) l2.length c2) w (w2.setCell ⟨b2, (i - 1) * 4 + 1, none⟩ (.int .i64 ((eth l2 (i - 1)).blocks + (eth l2 i).blocks))).drew) :=
          (hT.out.setE rfl _ _).right (Ext.refl _).drew_right
        have hd3 : Hid (dr3 l2 i = (l2.set (i - 1) (grow (eth l2 (i - 1)) (eth l2 i).blocks)).eraseIdx i) := by unfold Hid dr3; rw [if_pos ⟨hA, hk⟩]
        go_upto_region 5 with fail
        go_region
        generalize (w2.setCell ⟨b2, (i - 1) * 4 + 1, none⟩ (.int .i64 ((eth l2 (i - 1)).blocks + (eth l2 i).blocks))).drew = w5 at *
        have hown2 := hid hM2.out.own
        have c32 := hM2.out.c3
        have lg2 := World.block_lt_of_cell? w5 _ c32
        dsimp only at lg2
        have hls : (l2.set (i - 1) (grow (eth l2 (i - 1)) (eth l2 i).blocks)).length = l2.length := by rw [List.length_set]
        clear c3 y0 y1 y2 y3 z0 z1 z2 z3 lg lb f1 e1 e2 hsum hM hT hb2
        go_wp2_with fail
        rw [show ((i : Int) + 1) = ((i + 1 : Nat) : Int) by omega]
        refine (del_any _ i _ w5 (by rw [hls]; omega) (by omega) hown2.out).mono ?_
        rintro e w6 ⟨v', rfl, ho3, hrw⟩
        rw [hls] at ho3
        obtain ⟨g', c', rfl⟩ := own_slice ho3 (by omega)
        obtain ⟨m1, m2, m3, m4⟩ := MA.put (l' := (l2.set (i - 1) (grow (eth l2 (i - 1)) (eth l2 i).blocks)).eraseIdx i) hM2.out hrw (by rw [List.length_eraseIdx, if_pos (by rw [hls]; omega), hls]; exact ho3)
        replace m1 := hid m1
        replace hrw := hid hrw
        clear ho3
        go_wp2
        exact hrest3.out _ _ _ _ _ _ _ _ _ _ _ _ _ _ _ _ _ _ _ _ _ _ _ _ _ _ _ _ _ _ _ _ _ _ _ _ _ _ _ _ _ _ _ _ _ _ _ _ _ _ _ _ _ _ _ _ _ _ _ _ _ _ _ _ _ _ _ _ _ _ _ _ _ _ _ _ _ _ _ _ _ _ _ _ _ _ _ _ _ _ _ _ _ _ _ _ _ _ _ _ _ _ _ _ _ _ _ _ _ _ _ _ _ _ _ _ _ _ _ _ _ _ _ _ _ _ _ _ _ _ _ _ _ _ _ _ _ _ _ ⟨_, by rw [hd3.out]; exact m1.out, (hT2.out.rw hrw.out).set 3 _⟩
      · have dk : ((eth l2 (i - 1)).kind == 0) = false := by rw [beq_eq_false_iff_ne]; exact hk
        have hd3 : Hid (dr3 l2 i = l2) := by unfold Hid dr3; rw [if_neg (fun h => hk h.2)]
        go_wp2
        exact hrest3.out _ _ _ _ _ _ _ _ _ _ _ _ _ _ _ _ _ _ _ _ _ _ _ _ _ _ _ _ _ _ _ _ _ _ _ _ _ _ _ _ _ _ _ _ _ _ _ _ _ _ _ _ _ _ _ _ _ _ _ _ _ _ _ _ _ _ _ _ _ _ _ _ _ _ _ _ _ _ _ _ _ _ _ _ _ _ _ _ _ _ _ _ _ _ _ _ _ _ _ _ _ _ _ _ _ _ _ _ _ _ _ _ _ _ _ _ _ _ _ _ _ _ _ _ _ _ _ _ _ _ _ _ _ _ _ _ _ _ _ ⟨_, by rw [hd3.out]; exact hM.out, hT.out⟩
    · have dA : ¬ (0 : Int) < (i : Int) := by omega
      have hd3 : Hid (dr3 l2 i = l2) := by unfold Hid dr3; rw [if_neg (fun h => hA h.1)]
      go_wp2
      exact hrest3.out _ _ _ _ _ _ _ _ _ _ _ _ _ _ _ _ _ _ _ _ _ _ _ _ _ _ _ _ _ _ _ _ _ _ _ _ _ _ _ _ _ _ _ _ _ _ _ _ _ _ _ _ _ _ _ _ _ _ _ _ _ _ _ _ _ _ _ _ _ _ _ _ _ _ _ _ _ _ _ _ _ _ _ _ _ _ _ _ _ _ _ _ _ _ _ _ _ _ _ _ _ _ _ _ _ _ _ _ _ _ _ _ _ _ _ _ _ _ _ _ _ _ _ _ _ _ _ _ _ _ _ _ _ _ _ _ _ _ _ ⟨_, by rw [hd3.out]; exact hM.out, hT.out⟩
  clear aK1
  replace hrest := hid hrest
  have c3 := hM1.out.c3
  obtain ⟨y0, y1, y2, y3⟩ := hM1.out.ent hi1
  have lg := World.block_lt_of_cell? w1 _ c3
  have lb := World.block_lt_of_cell? w1 _ y0
  dsimp only at lg lb
  have hw : IntKind.i64.wrap ((i : Int) + 1) = ((i + 1 : Nat) : Int) := by rw [IntWalk.i64_in _ (by omega)]; omega
  by_cases hA : i + 1 < l.length
  · have dA : ((i + 1 : Nat) : Int) < (l.length : Int) := by omega
    obtain ⟨z0, z1, z2, z3⟩ := hM1.out.ent (k := i + 1) (by omega)
    by_cases hk : (eth l1 (i + 1)).kind = 0
    · have dk : ((eth l1 (i + 1)).kind == 0) = true := by rw [hk]; rfl
      have f1 := hM1.out.rowfree (i * 4 + 1)
      have e1 := hb1.out i hi1
      have e2 := hb1.out (i + 1) (by omega)
      have hsum : IntKind.i64.wrap ((eth l1 i).blocks + (eth l1 (i + 1)).blocks) = (eth l1 i).blocks + (eth l1 (i + 1)).blocks := IntWalk.i64_in _ (by omega)
      have hw2 : IntKind.i64.wrap ((i : Int) + 2) = ((i + 1 + 1 : Nat) : Int) := by rw [IntWalk.i64_in _ (by omega)]; omega
      have hM2 : Hid (MA lk (w1.setCell ⟨b, i * 4 + 1, none⟩ (.int .i64 ((eth l1 i).blocks + (eth l1 (i + 1)).blocks))).drew g size (.slice (some ⟨b, 0, none⟩) l.length c) (l1.set i (grow (eth l1 i) (eth l1 (i + 1)).blocks))) :=
        (hM1.out.setE hi1 (j := 1) (by decide) _ _ (grow_cells _ _)).ext (Ext.refl _).drew_right
      have hT2 : Hid (MT g (.slice (some ⟨b, 0, none⟩) l.length c) (.slice (some ⟨b, 0, none⟩) l.length c) w (w1.setCell ⟨b, i * 4 + 1, none⟩ (.int .i64 ((eth l1 i).blocks + (eth l1 (i + 1)).blocks))).drew) :=
        (hT1.out.setE rfl _ _).right (Ext.refl _).drew_right
      have hd2 : Hid (dr2 l1 i = (l1.set i (grow (eth l1 i) (eth l1 (i + 1)).blocks)).eraseIdx (i + 1)) := by unfold Hid dr2; rw [if_pos ⟨by omega, hk⟩]
      go_upto_region 2 with fail
      go_region
      generalize (w1.setCell ⟨b, i * 4 + 1, none⟩ (.int .i64 ((eth l1 i).blocks + (eth l1 (i + 1)).blocks))).drew = w2 at *
      have hown2 := hid hM2.out.own
      have c32 := hM2.out.c3
      have lg2 := World.block_lt_of_cell? w2 _ c32
      dsimp only at lg2
      have hls : (l1.set i (grow (eth l1 i) (eth l1 (i + 1)).blocks)).length = l1.length := by rw [List.length_set]
      clear c3 y0 y1 y2 y3 z0 z1 z2 z3 lg lb f1 e1 e2 hsum hM1 hT1 hb1
      go_wp2_with (go_at_call 70; refine (del_any _ (i + 1) _ w2 (by rw [hls]; omega) (by omega) hown2.out).mono ?_; rintro e w3 ⟨v', rfl, ho3, hrw⟩; rw [hls, hl1] at ho3; obtain ⟨g', c', rfl⟩ := own_slice ho3 (by omega); obtain ⟨m1, m2, m3, m4⟩ := MA.put (l' := (l1.set i (grow (eth l1 i) (eth l1 (i + 1)).blocks)).eraseIdx (i + 1)) hM2.out hrw (by rw [List.length_eraseIdx, if_pos (by rw [hls]; omega), hls, hl1]; exact ho3); replace m1 := hid m1; replace hrw := hid hrw; clear ho3)
      exact hrest.out _ _ _ _ _ _ _ _ _ _ _ _ _ _ _ _ _ _ _ _ _ _ _ _ _ _ _ _ _ _ _ _ _ _ _ _ _ _ _ _ _ _ _ _ _ _ _ _ _ _ _ _ _ _ _ _ _ _ _ _ _ _ _ _ _ _ _ _ _ _ _ _ _ _ _ _ _ _ _ _ _ _ _ _ _ _ _ _ _ _ _ _ _ _ _ _ _ _ _ _ _ _ _ _ _ _ _ _ _ _ _ _ _ _ _ _ _ _ _ _ _ _ _ _ _ _ _ _ _ _ _ _ _ _ _ _ _ _ _ ⟨_, by rw [hd2.out]; exact m1.out, (hT2.out.rw hrw.out).set 3 _⟩
    · have dk : ((eth l1 (i + 1)).kind == 0) = false := by rw [beq_eq_false_iff_ne]; exact hk
      have hd2 : Hid (dr2 l1 i = l1) := by unfold Hid dr2; rw [if_neg (fun h => hk h.2)]
      go_wp2
      exact hrest.out _ _ _ _ _ _ _ _ _ _ _ _ _ _ _ _ _ _ _ _ _ _ _ _ _ _ _ _ _ _ _ _ _ _ _ _ _ _ _ _ _ _ _ _ _ _ _ _ _ _ _ _ _ _ _ _ _ _ _ _ _ _ _ _ _ _ _ _ _ _ _ _ _ _ _ _ _ _ _ _ _ _ _ _ _ _ _ _ _ _ _ _ _ _ _ _ _ _ _ _ _ _ _ _ _ _ _ _ _ _ _ _ _ _ _ _ _ _ _ _ _ _ _ _ _ _ _ _ _ _ _ _ _ _ _ _ _ _ _ ⟨_, by rw [hd2.out]; exact hM1.out, hT1.out⟩
  · have dA : ¬ ((i + 1 : Nat) : Int) < (l.length : Int) := by omega
    have hd2 : Hid (dr2 l1 i = l1) := by unfold Hid dr2; rw [if_neg (fun h => hA (by omega))]
    go_wp2
    exact hrest.out _ _ _ _ _ _ _ _ _ _ _ _ _ _ _ _ _ _ _ _ _ _ _ _ _ _ _ _ _ _ _ _ _ _ _ _ _ _ _ _ _ _ _ _ _ _ _ _ _ _ _ _ _ _ _ _ _ _ _ _ _ _ _ _ _ _ _ _ _ _ _ _ _ _ _ _ _ _ _ _ _ _ _ _ _ _ _ _ _ _ _ _ _ _ _ _ _ _ _ _ _ _ _ _ _ _ _ _ _ _ _ _ _ _ _ _ _ _ _ _ _ _ _ _ _ _ _ _ _ _ _ _ _ _ _ _ _ _ _ ⟨_, by rw [hd2.out]; exact hM1.out, hT1.out⟩
end Go.Proofs.Ytcgjhloiokpicaa
