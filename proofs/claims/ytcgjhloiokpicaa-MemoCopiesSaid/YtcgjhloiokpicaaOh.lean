/-
  read of the program: the entry that begins at a block.
-/
import Derived.Test.YtcgjhloiokpicaaOg
import Derived.Laws.IdiomStrings
namespace Go.Proofs.Ytcgjhloiokpicaa
open Go.RowKit Go.Shelf
set_option linter.unusedVariables false
set_option linter.unusedSimpArgs false
theorem set_get {w : World} {p : Addr} {v : Value} {u : Value} (h : w.cell? p = some u) : (w.setCell p v).cell? p = some v := World.cell?_setCell_same _ _ _ h
theorem set_keep {w : World} {p q : Addr} {v u : Value} (h : w.cell? q = some u) (hne : p ≠ q) : (w.setCell p v).cell? q = some u := by rw [World.cell?_setCell_other _ _ _ _ hne]; exact h
theorem off_ne {b i j : Nat} (h : i ≠ j) : (⟨b, i, none⟩ : Addr) ≠ ⟨b, j, none⟩ := fun e => h (by injection e)
theorem put4 {w : World} {b : Nat} (t : There w b 4) (v0 v1 v2 v3 : Value) :
    ((((w.setCell ⟨b, 0, none⟩ v0).setCell ⟨b, 1, none⟩ v1).setCell ⟨b, 2, none⟩ v2).setCell ⟨b, 3, none⟩ v3).cell? ⟨b, 0, none⟩ = some v0 ∧
    ((((w.setCell ⟨b, 0, none⟩ v0).setCell ⟨b, 1, none⟩ v1).setCell ⟨b, 2, none⟩ v2).setCell ⟨b, 3, none⟩ v3).cell? ⟨b, 1, none⟩ = some v1 ∧
    ((((w.setCell ⟨b, 0, none⟩ v0).setCell ⟨b, 1, none⟩ v1).setCell ⟨b, 2, none⟩ v2).setCell ⟨b, 3, none⟩ v3).cell? ⟨b, 2, none⟩ = some v2 ∧
    ((((w.setCell ⟨b, 0, none⟩ v0).setCell ⟨b, 1, none⟩ v1).setCell ⟨b, 2, none⟩ v2).setCell ⟨b, 3, none⟩ v3).cell? ⟨b, 3, none⟩ = some v3 :=
  ⟨set_keep (set_keep (set_keep (set_get (t.cell (o := 0) (by omega))) (off_ne (by decide))) (off_ne (by decide))) (off_ne (by decide)),
   set_keep (set_keep (set_get ((t.set _ _).cell (o := 1) (by omega))) (off_ne (by decide))) (off_ne (by decide)),
   set_keep (set_get (((t.set _ _).set _ _).cell (o := 2) (by omega))) (off_ne (by decide)),
   set_get ((((t.set _ _).set _ _).set _ _).cell (o := 3) (by omega))⟩
theorem cut_cut (L : List Int) {a m i k : Nat} (h : i + k ≤ m) : cut (cut L a m) i k = cut L (a + i) k := by
  unfold cut
  rw [List.drop_take, List.take_take, List.drop_drop, Nat.min_eq_left (by omega)]
theorem num_rng {L : List Int} (h : isB L) (i : Nat) : 0 ≤ num L i 4 ∧ num L i 4 < 4294967296 := by
  have := leV_bd (l := L.drop i) (fun x hx => h x (List.mem_of_mem_drop hx)) 4
  exact this
/-- A slice that is long enough, cut. -/
theorem RdB.at4 {w : World} {ar : Addr} {n c : Nat} {R : List Int} (h : RdB w (some ar) n c R) {i m : Nat} (hi : 0 < i) (hm : i + m ≤ n) : RdB w (some ⟨ar.block, ar.off + i, none⟩) m (c - i) (cut R i m) := by
  have hc := (Rd.max h.1).2.1
  have := h.sub (i := i) (m := m) (c' := c) hm (by omega) (Nat.le_refl _)
  rw [Option.map_some] at this
  unfold Addr.add at this
  rwa [if_neg (by omega)] at this
theorem RdB.at0 {w : World} {ar : Addr} {n c : Nat} {R : List Int} (h : RdB w (some ar) n c R) {m : Nat} (hm : m ≤ n) : RdB w (some ar) m c (cut R 0 m) := by
  have hc := (Rd.max h.1).2.1
  have := h.sub (i := 0) (m := m) (c' := c) (by omega) (by omega) (Nat.le_refl _)
  rw [Option.map_some] at this
  cases ar
  exact this
theorem RdB.ata {w : World} {ad : Addr} {n c : Nat} {R : List Int} (h : RdB w (some ad) n c R) {i : Nat} (hi : i ≤ n) : RdB w (some (ad.add i)) (n - i) (c - i) (cut R i (n - i)) := by
  have hc := (Rd.max h.1).2.1
  have := h.sub (i := i) (m := n - i) (c' := c) (by omega) (by omega) (Nat.le_refl _)
  rwa [Option.map_some] at this
theorem conv_rd {w : World} {A : Addr} {n c : Nat} {l : List Int} (h : RdB w (some A) n c l) : (convert 27 9 (.slice (some A) n c)).run Try.prog w = .ok (.string (strI l)) w := by
  have hl := h.len
  obtain ⟨⟨h1, h2, h3, h4⟩, h5⟩ := h
  subst hl
  have hm : strI l = ⟨(l.map fun x => UInt8.ofNat x.toNat).toArray⟩ := rfl
  rw [hm]
  have := run_convert_bytes_back (P := Try.prog) w 27 9 5 A c (l.map fun x => UInt8.ofNat x.toNat) Try.underlying27 Try.underlying5 Try.underlying9 (fun j hj => by
    have hj' : j < l.length := by simpa using hj
    obtain ⟨ad, e, hc⟩ := h4 (by omega)
    obtain rfl := Option.some.inj e
    refine hc j _ ?_
    unfold bys
    rw [List.getElem?_map, List.getElem?_eq_getElem hj']
    have := h5 _ (List.getElem_mem hj')
    simp [UInt8.toNat_ofNat']
    omega)
  rw [List.length_map] at this
  exact this
def rdOk (size N : Int) (L : List Int) (q : Int) (a : Nat) : Prop := 1 ≤ num L (a + 4) 4 ∧ num L (a + 4) 4 ≤ N - q ∧ (num L a 4 = 0 ∨ (num L a 4 = 1 ∧ num L (a + 8) 4 ≤ 2048 ∧ needS size (num L (a + 8) 4) = num L (a + 4) 4))
set_option maxRecDepth 100000 in
set_option maxHeartbeats 4000000 in
theorem read_any (size N q : Int) (A : Option Addr) (n c : Nat) (L : List Int) (w : World) (h : RdB w A n c L) (hs1 : 16 ≤ size) (hs2 : size ≤ 256) (hn : (n : Int) = N * size) (hq1 : 1 ≤ q) (hq : q < N) (hN : N ≤ 4096) (a : Nat) (ha : (a : Int) = q * size) : Calls Try.prog 37 #[.slice A n c, .int .i64 size, .int .i64 q] w fun e w' => Ext w w' ∧ ((rdOk size N L q a ∧ e = .returned (.tuple #[.agg (rdE L q a).cells.toArray, .bool true])) ∨ (¬ rdOk size N L q a ∧ e = .returned (.tuple #[.agg #[.int .i64 0, .int .i64 0, .int .i64 0, .string ⟨#[]⟩], .bool false]))) := by
  suffices hall : ∀ RP : Ending → World → Prop, (∀ w', Ext w w' → ¬ rdOk size N L q a → RP (.returned (.tuple #[.agg #[.int .i64 0, .int .i64 0, .int .i64 0, .string ⟨#[]⟩], .bool false])) w') → (∀ w', Ext w w' → rdOk size N L q a → RP (.returned (.tuple #[.agg (rdE L q a).cells.toArray, .bool true])) w') → Calls Try.prog 37 #[.slice A n c, .int .i64 size, .int .i64 q] w RP from
    hall _ (fun w' hx hn => ⟨hx, .inr ⟨hn, rfl⟩⟩) (fun w' hx hy => ⟨hx, .inl ⟨hy, rfl⟩⟩)
  intro RP hNo hYes
  have hmx := Rd.max h.1
  have hNq : (N - q) * size = (n : Int) - a := by rw [Int.sub_mul, hn, ha]
  have hsz : (N - q) * size ≤ 4096 * 256 := Int.mul_le_mul (by omega) hs2 (by omega) (by omega)
  have hsq : q * size ≤ 4096 * 256 := Int.mul_le_mul (by omega) hs2 (by omega) (by omega)
  have hsl : 1 * size ≤ (N - q) * size := Int.mul_le_mul (by omega) (Int.le_refl _) (by omega) (by omega)
  obtain ⟨ad, rfl, -⟩ := h.at_ (k := 0) (by omega)
  have hr := h.ata (i := a) (by omega)
  have hwa : IntKind.i64.wrap (q * size) = (a : Int) := by rw [IntWalk.i64_in _ (by omega), ha]
  have hdiv : ((n - a : Nat) : Int) / size = N - q := by
    rw [show ((n - a : Nat) : Int) = (N - q) * size by omega, Int.mul_ediv_cancel _ (by omega)]
  have gK := hid (show leV (cut (cut L a (n - a)) 0 4) = num L a 4 by rw [cut_cut L (by omega)]; rfl)
  have gB := hid (show leV (cut (cut L a (n - a)) 4 4) = num L (a + 4) 4 by rw [cut_cut L (by omega)]; rfl)
  have gT := hid (show leV (cut (cut L a (n - a)) 8 4) = num L (a + 8) 4 by rw [cut_cut L (by omega)]; rfl)
  have gS := hid (fun k (hk : 12 + k ≤ n - a) => show cut (cut L a (n - a)) 12 k = cut L (a + 12) k by rw [cut_cut L hk])
  have rK := num_rng h.2 a
  have rB := num_rng h.2 (a + 4)
  have rT := num_rng h.2 (a + 8)
  unfold rdOk at hNo hYes
  unfold rdE at hYes
  generalize hSS : (fun k => strI (cut L (a + 12) k)) = SS
  replace gS : Hid (∀ k, 12 + k ≤ n - a → strI (cut (cut L a (n - a)) 12 k) = SS k) := fun k hk => by rw [gS.out k hk, ← hSS]
  rw [show strI (cut L (a + 12) (num L (a + 8) 4).toNat) = SS (num L (a + 8) 4).toNat by rw [← hSS]] at hYes
  generalize num L a 4 = K at *
  generalize num L (a + 4) 4 = B at *
  generalize num L (a + 8) 4 = T at *
  generalize hR : cut L a (n - a) = R at *
  clear hR hSS h
  replace hNo := hid hNo
  have hY0 : Hid (∀ w', Ext w w' → 1 ≤ B → B ≤ N - q → K = 0 → RP (.returned (.tuple #[.agg #[.int .i64 q, .int .i64 B, .int .i64 0, .string ⟨#[]⟩], .bool true])) w') := fun w' hx h1 h2 h3 => by
    have := hYes w' hx ⟨h1, h2, .inl h3⟩
    rw [if_pos h3] at this
    exact this
  have hY1 : Hid (∀ w', Ext w w' → 1 ≤ B → B ≤ N - q → K = 1 → T ≤ 2048 → needS size T = B → RP (.returned (.tuple #[.agg #[.int .i64 q, .int .i64 B, .int .i64 1, .string (SS T.toNat)], .bool true])) w') := fun w' hx h1 h2 h3 h4 h5 => by
    have := hYes w' hx ⟨h1, h2, .inr ⟨h3, h4, h5⟩⟩
    rw [if_neg (by omega)] at this
    exact this
  clear hYes
  have l1 : (a : Int) ≤ (n : Int) := by omega
  have l2 : ¬ c = a := by omega
  have hnr : ((n - a : Nat) : Int) = (N - q) * size := by omega
  have hnr16 : 16 ≤ n - a := by omega
  have hncr : n - a ≤ c - a := by omega
  generalize hAR : ad.add a = ar at *
  have hcz : c - a ≤ 9223372036854775807 := by omega
  have hra := hid hr
  clear hr
  go_enter Try.func37, Try.ntmps37
  go_upto_region 2 with fail
  have eqa : (q * size).toNat = a := by omega
  simp only [eqa, hAR]
  have ht := hid (There.new w #[.int .i64 0, .int .i64 0, .int .i64 0, .string { data := #[] }] 78 (n := 4) (by simp))
  have hE := hid ((Ext.refl w).alloc_right (.cells #[.int .i64 0, .int .i64 0, .int .i64 0, .string { data := #[] }] 78))
  have hgg : Hid (w.heap.size < (w.alloc (.cells #[.int .i64 0, .int .i64 0, .int .i64 0, .string { data := #[] }] 78)).heap.size) := by unfold Hid World.alloc; rw [Array.size_push]; exact Nat.lt_succ_self _
  generalize hG0 : w.heap.size = G0 at ht hgg ⊢
  replace hG0 := hid hG0
  have hwG : Hid (w.heap.size ≤ G0) := Nat.le_of_eq hG0.out
  generalize w.alloc (.cells #[.int .i64 0, .int .i64 0, .int .i64 0, .string { data := #[] }] 78) = w1 at *
  have r1 := hid (hra.out.ext hE.out)
  have hcK : Hid (∀ w', Ext w1 w' → Calls Try.prog 36 #[.slice (some ar) 4 (c - a)] w' fun e w'' => e = .returned (.int .i64 K) ∧ w' = w'') := fun w' hx => by
    rw [← gK.out]
    exact get_any w' _ 4 _ _ ((r1.out.ext hx).at0 (by omega)) (by omega)
  have hcB : Hid (∀ w', Ext w1 w' → Calls Try.prog 36 #[.slice (some ⟨ar.block, ar.off + 4, none⟩) 4 (c - a - 4)] w' fun e w'' => e = .returned (.int .i64 B) ∧ w' = w'') := fun w' hx => by
    rw [← gB.out]
    exact get_any w' _ 4 _ _ ((r1.out.ext hx).at4 (by omega) (by omega)) (by omega)
  have hcT : Hid (∀ w', Ext w1 w' → Calls Try.prog 36 #[.slice (some ⟨ar.block, ar.off + 8, none⟩) 4 (c - a - 8)] w' fun e w'' => e = .returned (.int .i64 T) ∧ w' = w'') := fun w' hx => by
    rw [← gT.out]
    exact get_any w' _ 4 _ _ ((r1.out.ext hx).at4 (by omega) (by omega)) (by omega)
  have hcS : Hid (∀ (k : Nat) w', 12 + k ≤ n - a → Ext w1 w' → (convert 27 9 (.slice (some ⟨ar.block, ar.off + 12, none⟩) k (c - a - 12))).run Try.prog w' = .ok (.string (SS k)) w') := fun k w' hk hx => by
    rw [← gS.out k hk]
    exact conv_rd ((r1.out.ext hx).at4 (by omega) hk)
  generalize hcr : c - a = cr at *
  generalize hnn : n - a = nr at *
  have u1 : (4 : Int) ≤ (cr : Int) := by omega
  have u2 : ¬ cr = 0 := by omega
  have u3 : ¬ cr = 4 := by omega
  have u4 : (8 : Int) ≤ (cr : Int) := by omega
  go_cut [9] (fun x wx => ∃ p, x = .pointer (some ⟨p, 0, none⟩) ∧ wx.cell? ⟨p, 0, none⟩ = some (.int .i64 q) ∧ wx.cell? ⟨p, 1, none⟩ = some (.int .i64 B) ∧ wx.cell? ⟨p, 2, none⟩ = some (.int .i64 K) ∧ wx.cell? ⟨p, 3, none⟩ = some (.string ⟨#[]⟩) ∧ Hid (There wx p 4) ∧ Hid (There wx G0 4) ∧ Hid (G0 < p) ∧ Hid (Ext w wx) ∧ Hid (Ext w1 wx))
  case first =>
    have hx_v1 : Hid (Ext w1 w1.drew) := (Ext.refl _).drew_right
    refine region_J (fun _ => True) 10 (by kernel_rfl) ?_
    generalize w1.drew = v1 at *
    refine J_takeO 0 (v := ?va0) rfl (by kernel_rfl) (by kernel_rfl) (by kernel_rfl) (by kernel_rfl) (fun _ _ _ h => h) (Or.inl ⟨by rfl, ?ya0⟩) trivial ?ra0
    case ya0 => (intro w hSw; obtain _ := hSw; (go_simp; with_reducible rfl))
    simp only [Act.put, List.getElem_toArray, List.getElem_cons_zero, List.getElem_cons_succ, List.setIfInBounds_toArray, List.set_cons_zero, List.set_cons_succ]
    refine J_takeO 1 (v := ?va1) rfl (by kernel_rfl) (by kernel_rfl) (by kernel_rfl) (by kernel_rfl) (fun _ _ _ h => h) (Or.inl ⟨by rfl, ?ya1⟩) trivial ?ra1
    case ya1 => (intro w hSw; obtain _ := hSw; (go_simp; with_reducible rfl))
    simp only [Act.put, List.getElem_toArray, List.getElem_cons_zero, List.getElem_cons_succ, List.setIfInBounds_toArray, List.set_cons_zero, List.set_cons_succ]
    refine J_takeO 2 (v := ?va2) rfl (by kernel_rfl) (by kernel_rfl) (by kernel_rfl) (by kernel_rfl) (fun _ _ _ h => h) (Or.inl ⟨by rfl, ?ya2⟩) trivial ?ra2
    case ya2 => (intro w hSw; obtain _ := hSw; (go_simp; with_reducible rfl))
    simp only [Act.put, List.getElem_toArray, List.getElem_cons_zero, List.getElem_cons_succ, List.setIfInBounds_toArray, List.set_cons_zero, List.set_cons_succ]
    refine J_takeO 4 (v := ?va4) rfl (by kernel_rfl) (by kernel_rfl) (by kernel_rfl) (by kernel_rfl) (fun _ _ _ h => h) (Or.inl ⟨by rfl, ?ya4⟩) trivial ?ra4
    case ya4 => (intro w hSw; obtain _ := hSw; (go_simp; with_reducible rfl))
    simp only [Act.put, List.getElem_toArray, List.getElem_cons_zero, List.getElem_cons_succ, List.setIfInBounds_toArray, List.set_cons_zero, List.set_cons_succ]
    refine J_takeO 5 (v := ?va5) rfl (by kernel_rfl) (by kernel_rfl) (by kernel_rfl) (by kernel_rfl) (fun _ _ _ h => h) (Or.inl ⟨by rfl, ?ya5⟩) trivial ?ra5
    case ya5 => (intro w hSw; obtain _ := hSw; (go_simp; with_reducible rfl))
    simp only [Act.put, List.getElem_toArray, List.getElem_cons_zero, List.getElem_cons_succ, List.setIfInBounds_toArray, List.set_cons_zero, List.set_cons_succ]
    refine J_two 3 8 rfl rfl (by kernel_rfl) (fun K hK => ?_) (fun K hK => ?_)
    · go_simp
      refine (hcK.out _ hx_v1.out).mono ?_
      rintro e w' ⟨rfl, rfl⟩
      refine hK _ _ ⟨fun _ => trivial, ?_⟩
      clear hK K
      try simp only [Act.put, List.getElem_toArray, List.getElem_cons_zero, List.getElem_cons_succ, List.setIfInBounds_toArray, List.set_cons_zero, List.set_cons_succ]
      refine J_two 6 8 rfl rfl (by kernel_rfl) (fun K hK => ?_) (fun K hK => ?_)
      · go_simp
        refine (hcB.out _ hx_v1.out).mono ?_
        rintro e w' ⟨rfl, rfl⟩
        refine hK _ _ ⟨fun _ => trivial, ?_⟩
        clear hK K
        try simp only [Act.put, List.getElem_toArray, List.getElem_cons_zero, List.getElem_cons_succ, List.setIfInBounds_toArray, List.set_cons_zero, List.set_cons_succ]
        refine J_takeO 7 (v := ?vc17) rfl (by kernel_rfl) (by kernel_rfl) (by kernel_rfl) (by kernel_rfl) (fun _ _ _ h => h) (Or.inl ⟨by rfl, ?yc17⟩) trivial ?rc17
        case yc17 => (intro w hSw; obtain _ := hSw; (go_simp; with_reducible rfl))
        simp only [Act.put, List.getElem_toArray, List.getElem_cons_zero, List.getElem_cons_succ, List.setIfInBounds_toArray, List.set_cons_zero, List.set_cons_succ]
        refine J_one 8 rfl (by kernel_rfl) (fun K hK => ?_)
        go_simp
        refine hK _ _ ⟨fun _ => trivial, ?_⟩
        clear hK K
        try simp only [Act.put, List.getElem_toArray, List.getElem_cons_zero, List.getElem_cons_succ, List.setIfInBounds_toArray, List.set_cons_zero, List.set_cons_succ]
        have hp := hid (There.new v1 #[.int .i64 0, .int .i64 0, .int .i64 0, .string { data := #[] }] 78 (n := 4) (by simp))
        have hx_v2 : Hid (Ext w1 (v1.alloc (.cells #[.int .i64 0, .int .i64 0, .int .i64 0, .string { data := #[] }] 78))) := hx_v1.out.alloc_right _
        have hwp : Hid (w1.heap.size ≤ v1.heap.size) := hx_v1.out.size
        generalize v1.heap.size = p at *
        generalize v1.alloc (.cells #[.int .i64 0, .int .i64 0, .int .i64 0, .string { data := #[] }] 78) = v2 at *
        refine J_one 9 rfl (by kernel_rfl) (fun K hK => ?_)
        have e0 := hp.out.cell (o := 0) (by omega)
        have f0 := hp.out.free (o := 0) (by omega)
        have e1 := hp.out.cell (o := 1) (by omega)
        have f1 := hp.out.free (o := 1) (by omega)
        have e2 := hp.out.cell (o := 2) (by omega)
        have f2 := hp.out.free (o := 2) (by omega)
        have e3 := hp.out.cell (o := 3) (by omega)
        have f3 := hp.out.free (o := 3) (by omega)
        go_simp
        refine hK _ _ ⟨fun _ => trivial, ?_⟩
        clear hK K e0 e1 e2 e3 f0 f1 f2 f3
        try simp only [Act.put, List.getElem_toArray, List.getElem_cons_zero, List.getElem_cons_succ, List.setIfInBounds_toArray, List.set_cons_zero, List.set_cons_succ]
        refine J_done (by kernel_rfl) (OnlyOn.normal ?_)
        have hk := put4 hp.out (.int .i64 q) (.int .i64 B) (.int .i64 K) (.string { data := #[] })
        have hxe := (Ext.set (Ext.set (Ext.set (Ext.set hx_v2.out (p := ⟨p, 0, none⟩) hwp.out (.int .i64 q)) (p := ⟨p, 1, none⟩) hwp.out (.int .i64 B)) (p := ⟨p, 2, none⟩) hwp.out (.int .i64 K)) (p := ⟨p, 3, none⟩) hwp.out (.string { data := #[] }))
        go_wp2_with fail
        go_meet
        exact ⟨p, rfl, hk.1, hk.2.1, hk.2.2.1, hk.2.2.2, ((((hp.out.set _ _).set _ _).set _ _).set _ _), ht.out.ext hxe, Nat.lt_of_lt_of_le hgg.out hwp.out, hE.out.trans hxe, hxe⟩
      · go_simp
        refine hK _ _ ⟨fun _ => trivial, ?_⟩
        clear hK K
        try simp only [Act.put, List.getElem_toArray, List.getElem_cons_zero, List.getElem_cons_succ, List.setIfInBounds_toArray, List.set_cons_zero, List.set_cons_succ]
        have hp := hid (There.new v1 #[.int .i64 0, .int .i64 0, .int .i64 0, .string { data := #[] }] 78 (n := 4) (by simp))
        have hx_v3 : Hid (Ext w1 (v1.alloc (.cells #[.int .i64 0, .int .i64 0, .int .i64 0, .string { data := #[] }] 78))) := hx_v1.out.alloc_right _
        have hwp : Hid (w1.heap.size ≤ v1.heap.size) := hx_v1.out.size
        generalize v1.heap.size = p at *
        generalize v1.alloc (.cells #[.int .i64 0, .int .i64 0, .int .i64 0, .string { data := #[] }] 78) = v3 at *
        refine J_one 6 rfl (by kernel_rfl) (fun K hK => ?_)
        go_simp
        refine (hcB.out _ hx_v3.out).mono ?_
        rintro e w' ⟨rfl, rfl⟩
        refine hK _ _ ⟨fun _ => trivial, ?_⟩
        clear hK K
        try simp only [Act.put, List.getElem_toArray, List.getElem_cons_zero, List.getElem_cons_succ, List.setIfInBounds_toArray, List.set_cons_zero, List.set_cons_succ]
        refine J_takeO 7 (v := ?vc27) rfl (by kernel_rfl) (by kernel_rfl) (by kernel_rfl) (by kernel_rfl) (fun _ _ _ h => h) (Or.inl ⟨by rfl, ?yc27⟩) trivial ?rc27
        case yc27 => (intro w hSw; obtain _ := hSw; (go_simp; with_reducible rfl))
        simp only [Act.put, List.getElem_toArray, List.getElem_cons_zero, List.getElem_cons_succ, List.setIfInBounds_toArray, List.set_cons_zero, List.set_cons_succ]
        refine J_one 9 rfl (by kernel_rfl) (fun K hK => ?_)
        have e0 := hp.out.cell (o := 0) (by omega)
        have f0 := hp.out.free (o := 0) (by omega)
        have e1 := hp.out.cell (o := 1) (by omega)
        have f1 := hp.out.free (o := 1) (by omega)
        have e2 := hp.out.cell (o := 2) (by omega)
        have f2 := hp.out.free (o := 2) (by omega)
        have e3 := hp.out.cell (o := 3) (by omega)
        have f3 := hp.out.free (o := 3) (by omega)
        go_simp
        refine hK _ _ ⟨fun _ => trivial, ?_⟩
        clear hK K e0 e1 e2 e3 f0 f1 f2 f3
        try simp only [Act.put, List.getElem_toArray, List.getElem_cons_zero, List.getElem_cons_succ, List.setIfInBounds_toArray, List.set_cons_zero, List.set_cons_succ]
        refine J_done (by kernel_rfl) (OnlyOn.normal ?_)
        have hk := put4 hp.out (.int .i64 q) (.int .i64 B) (.int .i64 K) (.string { data := #[] })
        have hxe := (Ext.set (Ext.set (Ext.set (Ext.set hx_v3.out (p := ⟨p, 0, none⟩) hwp.out (.int .i64 q)) (p := ⟨p, 1, none⟩) hwp.out (.int .i64 B)) (p := ⟨p, 2, none⟩) hwp.out (.int .i64 K)) (p := ⟨p, 3, none⟩) hwp.out (.string { data := #[] }))
        go_wp2_with fail
        go_meet
        exact ⟨p, rfl, hk.1, hk.2.1, hk.2.2.1, hk.2.2.2, ((((hp.out.set _ _).set _ _).set _ _).set _ _), ht.out.ext hxe, Nat.lt_of_lt_of_le hgg.out hwp.out, hE.out.trans hxe, hxe⟩
    · go_simp
      refine hK _ _ ⟨fun _ => trivial, ?_⟩
      clear hK K
      try simp only [Act.put, List.getElem_toArray, List.getElem_cons_zero, List.getElem_cons_succ, List.setIfInBounds_toArray, List.set_cons_zero, List.set_cons_succ]
      have hp := hid (There.new v1 #[.int .i64 0, .int .i64 0, .int .i64 0, .string { data := #[] }] 78 (n := 4) (by simp))
      have hx_v4 : Hid (Ext w1 (v1.alloc (.cells #[.int .i64 0, .int .i64 0, .int .i64 0, .string { data := #[] }] 78))) := hx_v1.out.alloc_right _
      have hwp : Hid (w1.heap.size ≤ v1.heap.size) := hx_v1.out.size
      generalize v1.heap.size = p at *
      generalize v1.alloc (.cells #[.int .i64 0, .int .i64 0, .int .i64 0, .string { data := #[] }] 78) = v4 at *
      refine J_one 3 rfl (by kernel_rfl) (fun K hK => ?_)
      go_simp
      refine (hcK.out _ hx_v4.out).mono ?_
      rintro e w' ⟨rfl, rfl⟩
      refine hK _ _ ⟨fun _ => trivial, ?_⟩
      clear hK K
      try simp only [Act.put, List.getElem_toArray, List.getElem_cons_zero, List.getElem_cons_succ, List.setIfInBounds_toArray, List.set_cons_zero, List.set_cons_succ]
      refine J_one 6 rfl (by kernel_rfl) (fun K hK => ?_)
      go_simp
      refine (hcB.out _ hx_v4.out).mono ?_
      rintro e w' ⟨rfl, rfl⟩
      refine hK _ _ ⟨fun _ => trivial, ?_⟩
      clear hK K
      try simp only [Act.put, List.getElem_toArray, List.getElem_cons_zero, List.getElem_cons_succ, List.setIfInBounds_toArray, List.set_cons_zero, List.set_cons_succ]
      refine J_takeO 7 (v := ?vc37) rfl (by kernel_rfl) (by kernel_rfl) (by kernel_rfl) (by kernel_rfl) (fun _ _ _ h => h) (Or.inl ⟨by rfl, ?yc37⟩) trivial ?rc37
      case yc37 => (intro w hSw; obtain _ := hSw; (go_simp; with_reducible rfl))
      simp only [Act.put, List.getElem_toArray, List.getElem_cons_zero, List.getElem_cons_succ, List.setIfInBounds_toArray, List.set_cons_zero, List.set_cons_succ]
      refine J_one 9 rfl (by kernel_rfl) (fun K hK => ?_)
      have e0 := hp.out.cell (o := 0) (by omega)
      have f0 := hp.out.free (o := 0) (by omega)
      have e1 := hp.out.cell (o := 1) (by omega)
      have f1 := hp.out.free (o := 1) (by omega)
      have e2 := hp.out.cell (o := 2) (by omega)
      have f2 := hp.out.free (o := 2) (by omega)
      have e3 := hp.out.cell (o := 3) (by omega)
      have f3 := hp.out.free (o := 3) (by omega)
      go_simp
      refine hK _ _ ⟨fun _ => trivial, ?_⟩
      clear hK K e0 e1 e2 e3 f0 f1 f2 f3
      try simp only [Act.put, List.getElem_toArray, List.getElem_cons_zero, List.getElem_cons_succ, List.setIfInBounds_toArray, List.set_cons_zero, List.set_cons_succ]
      refine J_done (by kernel_rfl) (OnlyOn.normal ?_)
      have hk := put4 hp.out (.int .i64 q) (.int .i64 B) (.int .i64 K) (.string { data := #[] })
      have hxe := (Ext.set (Ext.set (Ext.set (Ext.set hx_v4.out (p := ⟨p, 0, none⟩) hwp.out (.int .i64 q)) (p := ⟨p, 1, none⟩) hwp.out (.int .i64 B)) (p := ⟨p, 2, none⟩) hwp.out (.int .i64 K)) (p := ⟨p, 3, none⟩) hwp.out (.string { data := #[] }))
      go_wp2_with fail
      go_meet
      exact ⟨p, rfl, hk.1, hk.2.1, hk.2.2.1, hk.2.2.2, ((((hp.out.set _ _).set _ _).set _ _).set _ _), ht.out.ext hxe, Nat.lt_of_lt_of_le hgg.out hwp.out, hE.out.trans hxe, hxe⟩
  case rest =>
    obtain ⟨p, rfl, e0, e1, e2, e3, hp, ht, hlt, hE, hE1⟩ := hcut
    generalize wc = w2 at *
    have htd : ((nr : Int)).tdiv size = N - q := by rw [Int.tdiv_eq_ediv_of_nonneg (by omega)]; exact hdiv
    have hsn : ¬ size = 0 := by omega
    replace hnr := hid hnr
    clear hNq hn htd
    by_cases hb1 : B < 1
    · have hno : Hid (¬ (1 ≤ B ∧ B ≤ N - q ∧ (K = 0 ∨ K = 1 ∧ T ≤ 2048 ∧ needS size T = B))) := fun h => by omega
      go_upto_region 3 with fail
      go_quiet (fail)
      replace hp : Hid (There (w2.drewN nq) p 4) := hp.out
      replace ht : Hid (There (w2.drewN nq) G0 4) := ht.out
      replace hE : Hid (Ext w (w2.drewN nq)) := hE.out.drewN_right nq
      replace hE1 : Hid (Ext w1 (w2.drewN nq)) := hE1.out.drewN_right nq
      replace e0 : (w2.drewN nq).cell? ⟨p, 0, none⟩ = some (.int .i64 q) := e0
      replace e1 : (w2.drewN nq).cell? ⟨p, 1, none⟩ = some (.int .i64 B) := e1
      replace e2 : (w2.drewN nq).cell? ⟨p, 2, none⟩ = some (.int .i64 K) := e2
      replace e3 : (w2.drewN nq).cell? ⟨p, 3, none⟩ = some (.string ⟨#[]⟩) := e3
      generalize w2.drewN nq = w3 at *
      have t0 := ht.out.cell (o := 0) (by omega)
      have g0 := ht.out.free (o := 0) (by omega)
      have t1 := ht.out.cell (o := 1) (by omega)
      have g1 := ht.out.free (o := 1) (by omega)
      have t2 := ht.out.cell (o := 2) (by omega)
      have g2 := ht.out.free (o := 2) (by omega)
      have t3 := ht.out.cell (o := 3) (by omega)
      have g3 := ht.out.free (o := 3) (by omega)
      have kk := hid (put4 ht.out (.int .i64 0) (.int .i64 0) (.int .i64 0) (.string { data := #[] }))
      have Fin := hid (Ext.set (Ext.set (Ext.set (Ext.set hE.out (p := ⟨G0, 0, none⟩) hwG.out (.int .i64 0)) (p := ⟨G0, 1, none⟩) hwG.out (.int .i64 0)) (p := ⟨G0, 2, none⟩) hwG.out (.int .i64 0)) (p := ⟨G0, 3, none⟩) hwG.out (.string { data := #[] }))
      clear ht hp
      go_wp2
      obtain ⟨k0, k1, k2, k3⟩ := kk.out
      exact bodyPost_ret (v := .tuple #[.agg #[.int .i64 0, .int .i64 0, .int .i64 0, .string { data := #[] }], .bool false]) (by simp [results, Try.results37, go_sem, k0, k1, k2, k3]) rfl (hNo.out _ Fin.out hno.out)
    · by_cases hb2 : N - q < B
      · have hno : Hid (¬ (1 ≤ B ∧ B ≤ N - q ∧ (K = 0 ∨ K = 1 ∧ T ≤ 2048 ∧ needS size T = B))) := fun h => by omega
        go_upto_region 3 with fail
        go_quiet (fail)
        replace hp : Hid (There (w2.drewN nq) p 4) := hp.out
        replace ht : Hid (There (w2.drewN nq) G0 4) := ht.out
        replace hE : Hid (Ext w (w2.drewN nq)) := hE.out.drewN_right nq
        replace hE1 : Hid (Ext w1 (w2.drewN nq)) := hE1.out.drewN_right nq
        replace e0 : (w2.drewN nq).cell? ⟨p, 0, none⟩ = some (.int .i64 q) := e0
        replace e1 : (w2.drewN nq).cell? ⟨p, 1, none⟩ = some (.int .i64 B) := e1
        replace e2 : (w2.drewN nq).cell? ⟨p, 2, none⟩ = some (.int .i64 K) := e2
        replace e3 : (w2.drewN nq).cell? ⟨p, 3, none⟩ = some (.string ⟨#[]⟩) := e3
        generalize w2.drewN nq = w3 at *
        have t0 := ht.out.cell (o := 0) (by omega)
        have g0 := ht.out.free (o := 0) (by omega)
        have t1 := ht.out.cell (o := 1) (by omega)
        have g1 := ht.out.free (o := 1) (by omega)
        have t2 := ht.out.cell (o := 2) (by omega)
        have g2 := ht.out.free (o := 2) (by omega)
        have t3 := ht.out.cell (o := 3) (by omega)
        have g3 := ht.out.free (o := 3) (by omega)
        have kk := hid (put4 ht.out (.int .i64 0) (.int .i64 0) (.int .i64 0) (.string { data := #[] }))
        have Fin := hid (Ext.set (Ext.set (Ext.set (Ext.set hE.out (p := ⟨G0, 0, none⟩) hwG.out (.int .i64 0)) (p := ⟨G0, 1, none⟩) hwG.out (.int .i64 0)) (p := ⟨G0, 2, none⟩) hwG.out (.int .i64 0)) (p := ⟨G0, 3, none⟩) hwG.out (.string { data := #[] }))
        clear ht hp
        go_wp2
        obtain ⟨k0, k1, k2, k3⟩ := kk.out
        exact bodyPost_ret (v := .tuple #[.agg #[.int .i64 0, .int .i64 0, .int .i64 0, .string { data := #[] }], .bool false]) (by simp [results, Try.results37, go_sem, k0, k1, k2, k3]) rfl (hNo.out _ Fin.out hno.out)
      · by_cases hk0 : K = 0
        · subst hk0
          go_upto_region 3 with fail
          go_quiet (fail)
          replace hp : Hid (There (w2.drewN nq) p 4) := hp.out
          replace ht : Hid (There (w2.drewN nq) G0 4) := ht.out
          replace hE : Hid (Ext w (w2.drewN nq)) := hE.out.drewN_right nq
          replace hE1 : Hid (Ext w1 (w2.drewN nq)) := hE1.out.drewN_right nq
          replace e0 : (w2.drewN nq).cell? ⟨p, 0, none⟩ = some (.int .i64 q) := e0
          replace e1 : (w2.drewN nq).cell? ⟨p, 1, none⟩ = some (.int .i64 B) := e1
          replace e2 : (w2.drewN nq).cell? ⟨p, 2, none⟩ = some (.int .i64 0) := e2
          replace e3 : (w2.drewN nq).cell? ⟨p, 3, none⟩ = some (.string ⟨#[]⟩) := e3
          generalize w2.drewN nq = w3 at *
          have t0 := ht.out.cell (o := 0) (by omega)
          have g0 := ht.out.free (o := 0) (by omega)
          have t1 := ht.out.cell (o := 1) (by omega)
          have g1 := ht.out.free (o := 1) (by omega)
          have t2 := ht.out.cell (o := 2) (by omega)
          have g2 := ht.out.free (o := 2) (by omega)
          have t3 := ht.out.cell (o := 3) (by omega)
          have g3 := ht.out.free (o := 3) (by omega)
          have kk := hid (put4 ht.out (.int .i64 q) (.int .i64 B) (.int .i64 0) (.string { data := #[] }))
          have Fin := hid (Ext.set (Ext.set (Ext.set (Ext.set hE.out (p := ⟨G0, 0, none⟩) hwG.out (.int .i64 q)) (p := ⟨G0, 1, none⟩) hwG.out (.int .i64 B)) (p := ⟨G0, 2, none⟩) hwG.out (.int .i64 0)) (p := ⟨G0, 3, none⟩) hwG.out (.string { data := #[] }))
          clear ht hp
          go_wp2
          obtain ⟨k0, k1, k2, k3⟩ := kk.out
          exact bodyPost_ret (v := .tuple #[.agg #[.int .i64 q, .int .i64 B, .int .i64 0, .string { data := #[] }], .bool true]) (by simp [results, Try.results37, go_sem, k0, k1, k2, k3]) rfl (hY0.out _ Fin.out (by omega) (by omega) (by simp))
        · have d0 : (K == 0) = false := by simpa using hk0
          by_cases hk1 : K = 1
          · subst hk1
            go_upto_region 3 with fail
            go_quiet (fail)
            replace hp : Hid (There (w2.drewN nq) p 4) := hp.out
            replace ht : Hid (There (w2.drewN nq) G0 4) := ht.out
            replace hE : Hid (Ext w (w2.drewN nq)) := hE.out.drewN_right nq
            replace hE1 : Hid (Ext w1 (w2.drewN nq)) := hE1.out.drewN_right nq
            replace e0 : (w2.drewN nq).cell? ⟨p, 0, none⟩ = some (.int .i64 q) := e0
            replace e1 : (w2.drewN nq).cell? ⟨p, 1, none⟩ = some (.int .i64 B) := e1
            replace e2 : (w2.drewN nq).cell? ⟨p, 2, none⟩ = some (.int .i64 1) := e2
            replace e3 : (w2.drewN nq).cell? ⟨p, 3, none⟩ = some (.string ⟨#[]⟩) := e3
            generalize w2.drewN nq = w3 at *
            have u5 : (12 : Int) ≤ (cr : Int) := by omega
            have u6 : ¬ cr - 8 = 0 := by omega
            have u7 : ¬ cr = 8 := by omega
            have u8 : ¬ cr - 12 = 0 := by omega
            by_cases hT : 2048 < T
            · have hno : Hid (¬ (1 ≤ B ∧ B ≤ N - q ∧ ((1 : Int) = 0 ∨ (1 : Int) = 1 ∧ T ≤ 2048 ∧ needS size T = B))) := fun h => by omega
              go_upto_region 10 with (go_at_call 36; refine (hcT.out _ hE1.out).mono ?_; rintro e w' ⟨rfl, rfl⟩)
              go_quiet ((fail))
              replace hp : Hid (There (w3.drewN nq) p 4) := hp.out
              replace ht : Hid (There (w3.drewN nq) G0 4) := ht.out
              replace hE : Hid (Ext w (w3.drewN nq)) := hE.out.drewN_right nq
              replace hE1 : Hid (Ext w1 (w3.drewN nq)) := hE1.out.drewN_right nq
              replace e0 : (w3.drewN nq).cell? ⟨p, 0, none⟩ = some (.int .i64 q) := e0
              replace e1 : (w3.drewN nq).cell? ⟨p, 1, none⟩ = some (.int .i64 B) := e1
              replace e2 : (w3.drewN nq).cell? ⟨p, 2, none⟩ = some (.int .i64 1) := e2
              replace e3 : (w3.drewN nq).cell? ⟨p, 3, none⟩ = some (.string ⟨#[]⟩) := e3
              generalize w3.drewN nq = w4 at *
              have t0 := ht.out.cell (o := 0) (by omega)
              have g0 := ht.out.free (o := 0) (by omega)
              have t1 := ht.out.cell (o := 1) (by omega)
              have g1 := ht.out.free (o := 1) (by omega)
              have t2 := ht.out.cell (o := 2) (by omega)
              have g2 := ht.out.free (o := 2) (by omega)
              have t3 := ht.out.cell (o := 3) (by omega)
              have g3 := ht.out.free (o := 3) (by omega)
              have kk := hid (put4 ht.out (.int .i64 0) (.int .i64 0) (.int .i64 0) (.string { data := #[] }))
              have Fin := hid (Ext.set (Ext.set (Ext.set (Ext.set hE.out (p := ⟨G0, 0, none⟩) hwG.out (.int .i64 0)) (p := ⟨G0, 1, none⟩) hwG.out (.int .i64 0)) (p := ⟨G0, 2, none⟩) hwG.out (.int .i64 0)) (p := ⟨G0, 3, none⟩) hwG.out (.string { data := #[] }))
              clear ht hp
              go_wp2
              obtain ⟨k0, k1, k2, k3⟩ := kk.out
              exact bodyPost_ret (v := .tuple #[.agg #[.int .i64 0, .int .i64 0, .int .i64 0, .string { data := #[] }], .bool false]) (by simp [results, Try.results37, go_sem, k0, k1, k2, k3]) rfl (hNo.out _ Fin.out hno.out)
            · have hN := hid (fun w => needs_any size T w hs1 hs2 (by omega) (by omega))
              by_cases hnb : needS size T = B
              · have hfit : 12 + T.toNat ≤ nr := by
                  have h1 := Int.lt_ediv_add_one_mul_self (T + 12 + size - 1) (show 0 < size by omega)
                  unfold needS at hnb
                  rw [hnb, Int.add_mul] at h1
                  have h2 : B * size ≤ (N - q) * size := Int.mul_le_mul (by omega) (Int.le_refl _) (by omega) (by omega)
                  have h3 := hnr.out
                  omega
                have d2 : (needS size T != B) = false := by simpa using hnb
                have hTB : Hid (needS size T = B) := hnb
                clear hnb
                generalize needS size T = ns at *
                obtain ⟨k, rfl⟩ : ∃ k : Nat, T = k := ⟨T.toNat, by omega⟩
                rw [Int.toNat_natCast] at hfit hY1
                have z1 : IntKind.i64.wrap (12 + (k : Int)) = 12 + (k : Int) := IntWalk.i64_in _ (by omega)
                have z2 : (12 + (k : Int)).toNat - 12 = k := by omega
                have z3 : (12 : Int) ≤ 12 + (k : Int) := by omega
                have z4 : 12 + (k : Int) ≤ (cr : Int) := by omega
                go_upto_region 10 with (go_at_call 36; refine (hcT.out _ hE1.out).mono ?_; rintro e w' ⟨rfl, rfl⟩)
                go_quiet ((go_at_call 33; exact quiet_left (hN.out _)))
                replace hp : Hid (There (w3.drewN nq) p 4) := hp.out
                replace ht : Hid (There (w3.drewN nq) G0 4) := ht.out
                replace hE : Hid (Ext w (w3.drewN nq)) := hE.out.drewN_right nq
                replace hE1 : Hid (Ext w1 (w3.drewN nq)) := hE1.out.drewN_right nq
                replace e0 : (w3.drewN nq).cell? ⟨p, 0, none⟩ = some (.int .i64 q) := e0
                replace e1 : (w3.drewN nq).cell? ⟨p, 1, none⟩ = some (.int .i64 B) := e1
                replace e2 : (w3.drewN nq).cell? ⟨p, 2, none⟩ = some (.int .i64 1) := e2
                replace e3 : (w3.drewN nq).cell? ⟨p, 3, none⟩ = some (.string ⟨#[]⟩) := e3
                generalize w3.drewN nq = w4 at *
                have hcv := hcS.out k w4 hfit hE1.out
                have e4 := hp.out.free (o := 3) (by omega)
                go_upto_region 13 with fail
                have hwp : w.heap.size ≤ p := by have := hwG.out; have := hlt.out; omega
                replace e0 := set_keep (p := ⟨p, 3, none⟩) (v := .string (SS k)) e0 (off_ne (by decide))
                replace e1 := set_keep (p := ⟨p, 3, none⟩) (v := .string (SS k)) e1 (off_ne (by decide))
                replace e2 := set_keep (p := ⟨p, 3, none⟩) (v := .string (SS k)) e2 (off_ne (by decide))
                replace e3 := set_get (p := ⟨p, 3, none⟩) (v := .string (SS k)) e3
                replace ht := hid (ht.out.set ⟨p, 3, none⟩ (.string (SS k)))
                replace hE := hid (Ext.set hE.out (p := ⟨p, 3, none⟩) hwp (.string (SS k)))
                clear e4 hcv hE1 hp hcS
                have hp := hwp
                generalize w4.setCell ⟨p, 3, none⟩ (.string (SS k)) = w5 at *
                have t0 := ht.out.cell (o := 0) (by omega)
                have g0 := ht.out.free (o := 0) (by omega)
                have t1 := ht.out.cell (o := 1) (by omega)
                have g1 := ht.out.free (o := 1) (by omega)
                have t2 := ht.out.cell (o := 2) (by omega)
                have g2 := ht.out.free (o := 2) (by omega)
                have t3 := ht.out.cell (o := 3) (by omega)
                have g3 := ht.out.free (o := 3) (by omega)
                have kk := hid (put4 ht.out (.int .i64 q) (.int .i64 B) (.int .i64 1) (.string (SS k)))
                have Fin := hid (Ext.set (Ext.set (Ext.set (Ext.set hE.out (p := ⟨G0, 0, none⟩) hwG.out (.int .i64 q)) (p := ⟨G0, 1, none⟩) hwG.out (.int .i64 B)) (p := ⟨G0, 2, none⟩) hwG.out (.int .i64 1)) (p := ⟨G0, 3, none⟩) hwG.out (.string (SS k)))
                clear ht hp
                go_wp2
                obtain ⟨k0, k1, k2, k3⟩ := kk.out
                exact bodyPost_ret (v := .tuple #[.agg #[.int .i64 q, .int .i64 B, .int .i64 1, .string (SS k)], .bool true]) (by simp [results, Try.results37, go_sem, k0, k1, k2, k3]) rfl (hY1.out _ Fin.out (by omega) (by omega) (by simp) (by omega) hTB.out)
              · have d2 : (needS size T != B) = true := by simpa using hnb
                have hno : Hid (¬ (1 ≤ B ∧ B ≤ N - q ∧ ((1 : Int) = 0 ∨ (1 : Int) = 1 ∧ T ≤ 2048 ∧ needS size T = B))) := fun h => hnb (by omega)
                replace hnb := hid hnb
                generalize needS size T = ns at *
                go_upto_region 10 with (go_at_call 36; refine (hcT.out _ hE1.out).mono ?_; rintro e w' ⟨rfl, rfl⟩)
                go_quiet ((go_at_call 33; exact quiet_left (hN.out _)))
                replace hp : Hid (There (w3.drewN nq) p 4) := hp.out
                replace ht : Hid (There (w3.drewN nq) G0 4) := ht.out
                replace hE : Hid (Ext w (w3.drewN nq)) := hE.out.drewN_right nq
                replace hE1 : Hid (Ext w1 (w3.drewN nq)) := hE1.out.drewN_right nq
                replace e0 : (w3.drewN nq).cell? ⟨p, 0, none⟩ = some (.int .i64 q) := e0
                replace e1 : (w3.drewN nq).cell? ⟨p, 1, none⟩ = some (.int .i64 B) := e1
                replace e2 : (w3.drewN nq).cell? ⟨p, 2, none⟩ = some (.int .i64 1) := e2
                replace e3 : (w3.drewN nq).cell? ⟨p, 3, none⟩ = some (.string ⟨#[]⟩) := e3
                generalize w3.drewN nq = w4 at *
                have t0 := ht.out.cell (o := 0) (by omega)
                have g0 := ht.out.free (o := 0) (by omega)
                have t1 := ht.out.cell (o := 1) (by omega)
                have g1 := ht.out.free (o := 1) (by omega)
                have t2 := ht.out.cell (o := 2) (by omega)
                have g2 := ht.out.free (o := 2) (by omega)
                have t3 := ht.out.cell (o := 3) (by omega)
                have g3 := ht.out.free (o := 3) (by omega)
                have kk := hid (put4 ht.out (.int .i64 0) (.int .i64 0) (.int .i64 0) (.string { data := #[] }))
                have Fin := hid (Ext.set (Ext.set (Ext.set (Ext.set hE.out (p := ⟨G0, 0, none⟩) hwG.out (.int .i64 0)) (p := ⟨G0, 1, none⟩) hwG.out (.int .i64 0)) (p := ⟨G0, 2, none⟩) hwG.out (.int .i64 0)) (p := ⟨G0, 3, none⟩) hwG.out (.string { data := #[] }))
                clear ht hp
                go_wp2
                obtain ⟨k0, k1, k2, k3⟩ := kk.out
                exact bodyPost_ret (v := .tuple #[.agg #[.int .i64 0, .int .i64 0, .int .i64 0, .string { data := #[] }], .bool false]) (by simp [results, Try.results37, go_sem, k0, k1, k2, k3]) rfl (hNo.out _ Fin.out hno.out)
          · have d1 : (K == 1) = false := by simpa using hk1
            have hno : Hid (¬ (1 ≤ B ∧ B ≤ N - q ∧ (K = 0 ∨ K = 1 ∧ T ≤ 2048 ∧ needS size T = B))) := fun h => by omega
            clear hk0 hk1
            go_upto_region 3 with fail
            go_quiet (fail)
            replace hp : Hid (There (w2.drewN nq) p 4) := hp.out
            replace ht : Hid (There (w2.drewN nq) G0 4) := ht.out
            replace hE : Hid (Ext w (w2.drewN nq)) := hE.out.drewN_right nq
            replace hE1 : Hid (Ext w1 (w2.drewN nq)) := hE1.out.drewN_right nq
            replace e0 : (w2.drewN nq).cell? ⟨p, 0, none⟩ = some (.int .i64 q) := e0
            replace e1 : (w2.drewN nq).cell? ⟨p, 1, none⟩ = some (.int .i64 B) := e1
            replace e2 : (w2.drewN nq).cell? ⟨p, 2, none⟩ = some (.int .i64 K) := e2
            replace e3 : (w2.drewN nq).cell? ⟨p, 3, none⟩ = some (.string ⟨#[]⟩) := e3
            generalize w2.drewN nq = w3 at *
            have t0 := ht.out.cell (o := 0) (by omega)
            have g0 := ht.out.free (o := 0) (by omega)
            have t1 := ht.out.cell (o := 1) (by omega)
            have g1 := ht.out.free (o := 1) (by omega)
            have t2 := ht.out.cell (o := 2) (by omega)
            have g2 := ht.out.free (o := 2) (by omega)
            have t3 := ht.out.cell (o := 3) (by omega)
            have g3 := ht.out.free (o := 3) (by omega)
            have kk := hid (put4 ht.out (.int .i64 0) (.int .i64 0) (.int .i64 0) (.string { data := #[] }))
            have Fin := hid (Ext.set (Ext.set (Ext.set (Ext.set hE.out (p := ⟨G0, 0, none⟩) hwG.out (.int .i64 0)) (p := ⟨G0, 1, none⟩) hwG.out (.int .i64 0)) (p := ⟨G0, 2, none⟩) hwG.out (.int .i64 0)) (p := ⟨G0, 3, none⟩) hwG.out (.string { data := #[] }))
            clear ht hp
            go_wp2
            obtain ⟨k0, k1, k2, k3⟩ := kk.out
            exact bodyPost_ret (v := .tuple #[.agg #[.int .i64 0, .int .i64 0, .int .i64 0, .string { data := #[] }], .bool false]) (by simp [results, Try.results37, go_sem, k0, k1, k2, k3]) rfl (hNo.out _ Fin.out hno.out)

end Go.Proofs.Ytcgjhloiokpicaa
