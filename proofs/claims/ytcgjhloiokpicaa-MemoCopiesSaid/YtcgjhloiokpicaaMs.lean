/-
  Put of the reference.
-/
import Derived.Test.YtcgjhloiokpicaaMr
import Derived.Test.YtcgjhloiokpicaaMc
namespace Go.Proofs.Ytcgjhloiokpicaa
open Go.RowKit Go.Shelf
set_option linter.unusedVariables false
set_option linter.unusedSimpArgs false
theorem infoRe : (Try.prog.info? 87).map (fun i => (i.zero, i.size, i.bytes)) = some (some (.agg #[.int .i64 0, .bool false, .string ⟨#[]⟩]), 3, 32) := by kernel_rfl
theorem rents_take : ∀ (l : List En) (k : Nat), (rents l).take (k * 3) = rents (l.take k)
  | [], k => by simp [rents]
  | x :: l, 0 => by simp [rents]
  | x :: l, k + 1 => by
    have hx : (rcells x).length = 3 := rfl
    rw [rents, List.take_succ_cons, rents, List.take_append, hx, show (k + 1) * 3 - 3 = k * 3 by omega, rents_take l k, List.take_of_length_le (by rw [hx]; omega)]
theorem rents_drop : ∀ (l : List En) (k : Nat), (rents l).drop (k * 3) = rents (l.drop k)
  | [], k => by simp [rents]
  | x :: l, 0 => by simp [rents]
  | x :: l, k + 1 => by
    have hx : (rcells x).length = 3 := rfl
    rw [rents, List.drop_succ_cons, List.drop_append, hx, show (k + 1) * 3 - 3 = k * 3 by omega, rents_drop l k, List.drop_of_length_le (by rw [hx]; omega), List.nil_append]
theorem RdR.take {w : World} {A : Option Addr} {n c : Nat} {l : List En} (h : RdR w A n c l) {m : Nat} (hm : m ≤ n) : RdR w A m c (l.take m) := by
  have hl := h.len
  refine ⟨by rw [rents_len, List.length_take]; congr 1; omega, Nat.le_trans hm h.2.1, h.2.2.1, fun h0 => ?_⟩
  obtain ⟨ad, e, hc⟩ := h.2.2.2 (by omega)
  refine ⟨ad, e, fun j u hu => hc j u ?_⟩
  rw [← rents_take, List.getElem?_take] at hu
  split at hu
  · exact hu
  · cases hu
theorem RdR.cut {w : World} {A : Option Addr} {n c : Nat} {l : List En} (h : RdR w A n c l) {k : Nat} (hk : k ≤ n) : RdR w (if c = k then A else A.map (·.add (k * 3))) (n - k) (c - k) (l.drop k) := by
  have := Rd.cut h hk
  rw [rents_drop] at this
  exact this
/-- Of what was there only block r has turned; the row lies where it lay or in new memory. -/
def RT (r : Nat) (v v' : Value) (w w' : World) : Prop := w.os = w'.os ∧ w.tape = w'.tape ∧ w.output = w'.output ∧ w.heap.size ≤ w'.heap.size ∧ (∀ k, k < w.heap.size → k ≠ r → w'.heap[k]? = w.heap[k]?) ∧ (v'.ownBlock = v.ownBlock ∨ ∀ k, v'.ownBlock = some k → w.heap.size ≤ k)
section
variable {r : Nat} {v v' v'' : Value} {u w w' w'' : World}
theorem RT.mt (h : RT r v v' w w') : MT r v v' w w' := ⟨h.1, h.2.1, h.2.2.1, h.2.2.2.1, fun k hk hg _ => h.2.2.2.2.1 k hk hg, h.2.2.2.2.2⟩
theorem RT.refl (r : Nat) (v : Value) (w : World) : RT r v v w w := ⟨rfl, rfl, rfl, Nat.le_refl _, fun _ _ _ => rfl, .inl rfl⟩
theorem RT.right (h : RT r v v' w w') (hx : Ext w' w'') : RT r v v' w w'' :=
  ⟨h.1.trans hx.os.symm, h.2.1.trans hx.tape.symm, h.2.2.1.trans hx.output.symm, Nat.le_trans h.2.2.2.1 hx.size, fun k hk hg => (hx.block (by have := h.2.2.2.1; omega)).trans (h.2.2.2.2.1 k hk hg), h.2.2.2.2.2⟩
theorem RT.trans (h : RT r v v' u w) (k : RT r v' v'' w w') : RT r v v'' u w' := by
  refine ⟨h.1.trans k.1, h.2.1.trans k.2.1, h.2.2.1.trans k.2.2.1, Nat.le_trans h.2.2.2.1 k.2.2.2.1, fun i hi hg => (k.2.2.2.2.1 i (by have := h.2.2.2.1; omega) hg).trans (h.2.2.2.2.1 i hi hg), ?_⟩
  rcases k.2.2.2.2.2 with e | e
  · rcases h.2.2.2.2.2 with e2 | e2
    · exact .inl (e.trans e2)
    · exact .inr (fun i hi => e2 i (e ▸ hi))
  · exact .inr (fun i hi => by have := e i hi; have := h.2.2.2.1; omega)
theorem RT.fset (h : RT r v v' w w') {b : Nat} (hb : w.heap.size ≤ b) (o : Nat) (x : Value) : RT r v v' w (w'.setCell ⟨b, o, none⟩ x) :=
  ⟨h.1, h.2.1, h.2.2.1, by simpa using h.2.2.2.1, fun k hk hg => (heap_setCell_other _ _ k _ (by exact fun e => by simp at e; omega)).trans (h.2.2.2.2.1 k hk hg), h.2.2.2.2.2⟩
theorem RT.set (h : RT r v v' w w') (o : Nat) (x : Value) : RT r v v' w (w'.setCell ⟨r, o, none⟩ x) :=
  ⟨h.1, h.2.1, h.2.2.1, by simpa using h.2.2.2.1, fun k hk hg => (heap_setCell_other _ _ k _ hg).trans (h.2.2.2.2.1 k hk hg), h.2.2.2.2.2⟩
theorem RT.as (h : RT r v v' w w') (hv : ∀ k, v''.ownBlock = some k → w.heap.size ≤ k) : RT r v v'' w w' := ⟨h.1, h.2.1, h.2.2.1, h.2.2.2.1, h.2.2.2.2.1, .inr hv⟩
theorem RT.of (hx : Ext w w') (hv : ∀ k, v'.ownBlock = some k → w.heap.size ≤ k) (i : Nat) (x : Value) : RT r v v' w (w'.setCell ⟨r, i, none⟩ x) := (((RT.refl r v w).right hx).set i x).as hv
theorem RT.size (h : RT r v v' w w') : w.heap.size ≤ w'.heap.size := h.2.2.2.1
theorem RT.block (h : RT r v v' w w') {k : Nat} (hk : k < w.heap.size) (hg : k ≠ r) : w'.heap[k]? = w.heap[k]? := h.2.2.2.2.1 k hk hg
end
theorem ext_push {w w1 w2 : World} {n size : Nat} {e : TypeId} {v : Value} {xs : List Value} (hx : Ext w w1) (hown : w1.ownsRow w.heap.size e size v n xs) (hg : w1.grownBy w2 v.ownBlock) : Ext w w2 := below_push hx hown hg hx.size
theorem own_baseK {w : World} {b b' n k : Nat} {e : TypeId} {v : Value} {xs : List Value} (h : w.ownsRow b e k v n xs) (hb : b' ≤ b) : w.ownsRow b' e k v n xs := by
  refine ⟨h.1, ?_⟩
  rcases h.2 with h2 | ⟨g, cap, cur, e1, e2, e3, e4⟩
  · exact .inl h2
  · exact .inr ⟨g, cap, cur, e1, by omega, e3, e4⟩
theorem own_freshB {w : World} {b n k : Nat} {e : TypeId} {v : Value} {xs : List Value} (h : w.ownsRow b e k v n xs) : ∀ g, v.ownBlock = some g → b ≤ g := fun g hg => (h.lt g hg).1
/-- The last steps of a call that lays a new row into the file. -/
theorem RA.fresh {w w1 : World} {r : Nat} {size : Int} {v v' : Value} {l l' : List En} {n : Nat} {xs : List Value} (h : RA w r size v l) (hx : Ext w w1) (ho : w1.ownsRow w.heap.size 87 3 v' n xs) (hn : n = l'.length) (hxs : xs = rents l') :
    RA (w1.setCell ⟨r, 1, none⟩ v') r size v' l' ∧ RT r v v' w (w1.setCell ⟨r, 1, none⟩ v') := by
  subst hn hxs
  exact ⟨(h.ext hx).put (own_baseK ho (Nat.zero_le _)) (fun e => by have := own_freshB ho _ e; have := h.lt; omega), RT.of hx (own_freshB ho) 1 _⟩
theorem begN_pre {l l' : List En} {i : Nat} (h : l'.take i = l.take i) : begN l' i = begN l i := by unfold begN; rw [h]
theorem PutL_cases (size : Int) (l : List En) (s : ByteArray) (n : Int) (hn : needS size s.size = n) (hz : ¬ 2048 < s.size) :
    (putN l n < l.length → PutB size l s = (eth l (putN l n)).block ∧ PutE size l s = 0 ∧ PutL size l s = putAt l (putN l n) n s) ∧ (¬ putN l n < l.length → PutB size l s = (if endI l + n ≤ 4096 then endI l else 0) ∧ PutE size l s = (if endI l + n ≤ 4096 then 0 else 3) ∧ PutL size l s = (if endI l + n ≤ 4096 then l ++ [⟨endI l, n, 1, s⟩] else l)) := by
  unfold PutB PutE PutL
  rw [if_neg hz, if_neg hz, if_neg hz, hn]
  constructor
  · intro h
    have hO : putO l n = true := by unfold putO; rw [if_pos h]
    rw [if_pos hO, if_pos hO]
    refine ⟨?_, rfl, ?_⟩
    · unfold putB; rw [if_pos h]
    · unfold putL; rw [if_pos h]
  · intro h
    have hO : putO l n = decide (endI l + n ≤ 4096) := by unfold putO; rw [if_neg h]
    by_cases h2 : endI l + n ≤ 4096
    · rw [hO, decide_eq_true h2, if_pos rfl, if_pos rfl, if_pos h2, if_pos h2, if_pos h2]
      refine ⟨?_, rfl, ?_⟩
      · unfold putB; rw [if_neg h, if_pos h2]
      · unfold putL; rw [if_neg h, if_pos h2]
    · rw [hO, decide_eq_false h2, if_neg h2, if_neg h2, if_neg h2]
      refine ⟨rfl, rfl, ?_⟩
      unfold putL; rw [if_neg h, if_neg h2]
set_option maxRecDepth 100000 in
set_option maxHeartbeats 4000000 in
theorem rPut_any (size : Int) (r : Nat) (v : Value) (l : List En) (s : ByteArray) (w : World) (h : RA w r size v l) (hG : Good size l) (hs1 : 16 ≤ size) (hs2 : size ≤ 256) : Calls Try.prog 45 #[.pointer (some ⟨r, 0, none⟩), .string s] w fun e w' => e = .returned (.tuple #[.int .i64 (PutB size l s), .int .i64 (PutE size l s)]) ∧ ∃ v', RA w' r size v' (PutL size l s) ∧ RT r v v' w w' := by
  by_cases hz : 2048 < s.size
  · have r1 : Hid (PutB size l s = 0 ∧ PutE size l s = 3 ∧ PutL size l s = l) := ⟨if_pos hz, if_pos hz, if_pos hz⟩
    have dz : (2048 : Int) < (s.size : Int) := by omega
    clear hz
    go_enter Try.func45, Try.ntmps45
    go_wp2
    go_ret2
    exact ⟨by rw [r1.out.1, r1.out.2.1]; rfl, v, by rw [r1.out.2.2]; exact h, RT.refl _ _ _⟩
  · have dz : ¬ (2048 : Int) < (s.size : Int) := by omega
    have hN := hid (fun w => rneeds_any size s.size w hs1 hs2 (by omega) (by omega))
    have hnr := need_rng ⟨hs1, hs2⟩ (n := s.size) (by omega) (by omega)
    have hC := hid (PutL_cases size l s _ rfl hz)
    have hGp : Good size (PutL size l s) := by unfold PutL; rw [if_neg hz]; exact good_put hG ⟨hs1, hs2⟩ (by omega)
    have hBG := hid (beg_good hG)
    have hGF := hid (good_facts hG)
    have hPN1 := hid (fun k => putN_is (l := l) (n := needS size s.size) (k := k))
    have hPN0 := hid (putN_none (l := l) (n := needS size s.size))
    generalize needS size s.size = n at *
    generalize PutB size l s = PB at *
    generalize PutE size l s = PE at *
    generalize PutL size l s = PL at *
    obtain ⟨i0, hi0, hz0, hz1, hz2⟩ := info_parts infoRe
    have c0 := h.c0
    have c1 := h.c1
    have lg := h.lt
    obtain ⟨A, c, rfl, hr⟩ := h.rd
    have hmx := Rd.max hr
    have hll := hGF.out.1
    replace hr := hid hr
    go_enter Try.func45, Try.ntmps45
    go_wp2_with fail
    refine (hN.out _).mono ?_
    rintro e w' ⟨rfl, rfl⟩
    go_wp2_with fail
    go_loopw [7] (fun i wr => ∃ k : Nat, k ≤ l.length ∧ i = .int .i64 k ∧ w = wr ∧ Hid (∀ j, j < k → fitE n (eth l j) = false)) (fun i _ => l.length - (intOf i).toNat)
    case atStart => exact ⟨0, by omega, rfl, rfl, fun j hj => absurd hj (by omega)⟩
    case round =>
      obtain ⟨k, hk, rfl, rfl, hno⟩ := hrel
      by_cases hlt : k < l.length
      · obtain ⟨ad, rfl, x0, x1, x2⟩ := hr.out.at_ hlt
        have hkk : (k : Int) < (l.length : Int) := by omega
        have hwk : IntKind.i64.wrap ((k : Int) + 1) = ((k + 1 : Nat) : Int) := by rw [IntWalk.i64_in _ (by omega)]; omega
        by_cases hfit : fitE n (eth l k) = true
        · have hpn := hPN1.out k hlt hno.out hfit
          obtain ⟨hp1, hp2, hp3⟩ := hC.out.1 (by rw [hpn]; exact hlt)
          rw [hpn] at hp1 hp3
          have q2 : (eth l k).kind = 0 := by unfold fitE at hfit; simp only [Bool.and_eq_true, beq_iff_eq] at hfit; exact hfit.1
          have q3 : n ≤ (eth l k).blocks := by unfold fitE at hfit; simp only [Bool.and_eq_true, decide_eq_true_eq] at hfit; exact hfit.2
          have hk1 := hGF.out.2.2.1 k hlt q2
          have d2 : ((eth l k).kind == 0) = true := by rw [q2]; rfl
          have d3 : ¬ (eth l k).blocks < n := by omega
          have hbk := hBG.out.1 k hlt
          have hgp2 := beg_good hGp
          have hbnd := hGF.out.2.1 k hlt
          replace hp1 := hid hp1
          replace hp2 := hid hp2
          have hck : ¬ c = k + 1 := by omega
          have hkc : k ≤ c := by omega
          have hk1c : k + 1 ≤ l.length := by omega
          clear hno hfit hPN1 hPN0 hC q2 q3 hBG hGF hN hpn
          have hRk := hid (hr.out.take hk)
          have hRc := hid (hr.out.cut (k := k + 1) (by omega))
          rw [if_neg hck] at hRc
          have hpre : Hid (PL.take k = l.take k) := by
            rw [hp3]
            unfold Hid putAt
            have e : (l.take k).length = k := by rw [List.length_take]; omega
            exact List.take_left' e
          have hput : Hid (PL = l.take k ++ (newE (eth l k) n s ++ l.drop (k + 1))) := hp3
          have hnewE : Hid (∀ x, newE (eth l k) n s = x → rents PL = rents (l.take k) ++ (rents x ++ rents (l.drop (k + 1))) ∧ PL.length = k + (x.length + (l.length - (k + 1)))) := by
            rintro x rfl
            rw [hput.out, rents_append, rents_append, List.length_append, List.length_append, List.length_take, List.length_drop]
            exact ⟨rfl, by omega⟩
          have hwb : IntKind.i64.wrap ((eth l k).blocks - n) = (eth l k).blocks - n := IntWalk.i64_in _ (by omega)
          have hnE : Hid (newE (eth l k) n s = ⟨(eth l k).block, n, 1, s⟩ :: (if n < (eth l k).blocks then [⟨(eth l k).block + n, (eth l k).blocks - n, 0, ⟨#[]⟩⟩] else [])) := rfl
          rw [hnE.out] at hnewE
          clear hp3 hput hnE
          generalize ((eth l k).kind == 0) = fr at *
          subst d2
          generalize (eth l k).blocks = z at *
          generalize (eth l k).block = zb at *
          generalize (eth l k).s = z3 at *
          generalize l.drop (k + 1) = ld at *
          generalize hlt2 : l.take k = lt at *
          replace hlt2 := hid hlt2
          go_wp2_with (at_builtin; refine wpList_appendAny _ rfl _ _ 83 rfl w.heap.size 87 i0 _ 3 32 Try.underlying83 hi0 hz0 hz1 hz2 rfl (by decide) _ _ _ rfl (World.ownsRow_nil _ _ _ _) _ _ _ _ rfl hRk.out (rents_one _) (by unfold maxLen; omega) (by omega) (Nat.le_refl _) ?_)
          intro v1 w1 own1 hg1
          have hx1 : Hid (Ext w w1) := ext_push (Ext.refl w) (World.ownsRow_nil w w.heap.size 87 3) hg1
          obtain ⟨A1, e1, rfl, -⟩ := own_form own1
          try simp only [List.nil_append, Nat.zero_add] at own1
          replace own1 := hid own1
          clear hg1
          go_wp2_with (at_builtin; refine wpList_push _ rfl _ _ 83 rfl w.heap.size 87 i0 _ 3 32 Try.underlying83 hi0 hz0 hz1 hz2 rfl (by decide) _ _ _ rfl own1.out [.int .i64 n, .bool false, .string s] rfl rfl (by simp [Value.oneCell']) (by unfold maxLen; omega) (by omega) hx1.out.size ?_)
          intro g2 d2 w2 own2 hg2 _
          have hx2 : Hid (Ext w w2) := ext_push hx1.out own1.out hg2
          clear hg2 own1 hx1
          replace own2 := hid own2
          have c12 := hx2.out.cell c1
          have x02 := hx2.out.cell x0
          have lg2 := World.block_lt_of_cell? w2 _ c12
          have la2 := World.block_lt_of_cell? w2 _ x02
          dsimp only at lg2
          by_cases hlt3 : n < z
          · rw [if_pos hlt3] at hnewE
            have hE := hid (hnewE.out _ rfl)
            clear hnewE
            go_wp2_with (at_builtin; refine wpList_push _ rfl _ _ 83 rfl w.heap.size 87 i0 _ 3 32 Try.underlying83 hi0 hz0 hz1 hz2 rfl (by decide) _ _ _ rfl own2.out [.int .i64 (z - n), .bool true, .string ⟨#[]⟩] rfl rfl (by simp [Value.oneCell']) (by unfold maxLen; omega) (by omega) hx2.out.size ?_)
            intro g3 d3 w3 own3 hg3 _
            have hx3 : Hid (Ext w w3) := ext_push hx2.out own2.out hg3
            clear hg3 own2 hx2 c12 x02 lg2 la2
            replace own3 := hid own3
            have c13 := hx3.out.cell c1
            have lg3 := World.block_lt_of_cell? w3 _ c13
            dsimp only at lg3
            have hRc3 := hid (hRc.out.ext hx3.out)
            go_wp2_with (at_builtin; refine wpList_appendAny _ rfl _ _ 83 rfl w.heap.size 87 i0 _ 3 32 Try.underlying83 hi0 hz0 hz1 hz2 rfl (by decide) _ _ _ rfl own3.out _ _ _ _ rfl hRc3.out (rents_one _) (by unfold maxLen; omega) (by omega) hx3.out.size ?_)
            intro v4 w4 own4 hg4
            have hx4 : Hid (Ext w w4) := ext_push hx3.out own3.out hg4
            clear hg4 own3 hx3 c13 lg3 hRc3
            obtain ⟨A4, e4, hv4, -⟩ := own_form own4
            subst hv4
            replace own4 := hid own4
            have c14 := hx4.out.cell c1
            have f14 := (h.ext hx4.out).free 1
            have lg4 := World.block_lt_of_cell? w4 _ c14
            dsimp only at lg4
            obtain ⟨hR, hT⟩ := h.fresh hx4.out own4.out (l' := PL) (by rw [hE.out.2]; simp; omega) (by rw [hE.out.1]; simp [rents, rcells, List.append_assoc])
            replace hR := hid hR
            replace hT := hid hT
            go_wp2_with fail
            refine (begin_any size r _ PL k _ hR.out (by rw [hE.out.2]; omega) (fun k hk => by have := hgp2.2.2 k hk; omega)).mono ?_
            rintro e w' ⟨rfl, rfl⟩
            rw [begN_pre (l' := PL) (l := l) (i := k) (by rw [hpre.out, hlt2.out]), hbk]
            go_wp2
            go_ret2
            exact ⟨by rw [hp1.out, hp2.out]; rfl, _, hR.out, hT.out⟩
          · rw [if_neg hlt3] at hnewE
            have hE := hid (hnewE.out _ rfl)
            clear hnewE
            have hRc3 := hid (hRc.out.ext hx2.out)
            go_wp2_with (at_builtin; refine wpList_appendAny _ rfl _ _ 83 rfl w.heap.size 87 i0 _ 3 32 Try.underlying83 hi0 hz0 hz1 hz2 rfl (by decide) _ _ _ rfl own2.out _ _ _ _ rfl hRc3.out (rents_one _) (by unfold maxLen; omega) (by omega) hx2.out.size ?_)
            intro v4 w4 own4 hg4
            have hx4 : Hid (Ext w w4) := ext_push hx2.out own2.out hg4
            clear hg4 own2 hx2 c12 x02 lg2 la2 hRc3
            obtain ⟨A4, e4, hv4, -⟩ := own_form own4
            subst hv4
            replace own4 := hid own4
            have c14 := hx4.out.cell c1
            have f14 := (h.ext hx4.out).free 1
            have lg4 := World.block_lt_of_cell? w4 _ c14
            dsimp only at lg4
            obtain ⟨hR, hT⟩ := h.fresh hx4.out own4.out (l' := PL) (by rw [hE.out.2]; simp; omega) (by rw [hE.out.1]; simp [rents, rcells, List.append_assoc])
            replace hR := hid hR
            replace hT := hid hT
            go_wp2_with fail
            refine (begin_any size r _ PL k _ hR.out (by rw [hE.out.2]; omega) (fun k hk => by have := hgp2.2.2 k hk; omega)).mono ?_
            rintro e w' ⟨rfl, rfl⟩
            rw [begN_pre (l' := PL) (l := l) (i := k) (by rw [hpre.out, hlt2.out]), hbk]
            go_wp2
            go_ret2
            exact ⟨by rw [hp1.out, hp2.out]; rfl, _, hR.out, hT.out⟩
        · have hn2 : Hid (∀ j, j < k + 1 → fitE n (eth l j) = false) := by
            intro j hj
            by_cases e : j = k
            · subst e; simpa using hfit
            · exact hno.out j (by omega)
          by_cases q2 : (eth l k).kind = 0
          · have d2 : ((eth l k).kind == 0) = true := by rw [q2]; rfl
            have d3 : (eth l k).blocks < n := by
              unfold fitE at hfit
              rw [d2] at hfit
              simpa using hfit
            clear hno hfit q2
            generalize ((eth l k).kind == 0) = fr at *
            subst d2
            generalize (eth l k).blocks = z at *
            generalize (eth l k).s = z3 at *
            go_wp2_with fail
            go_roundw
            case rel => exact ⟨k + 1, by omega, by go_num, by trivial, hn2⟩
            case measure => simp [intOf]; omega
          · have d2 : ((eth l k).kind == 0) = false := by rw [beq_eq_false_iff_ne]; exact q2
            clear hno hfit q2
            generalize ((eth l k).kind == 0) = fr at *
            subst d2
            generalize (eth l k).blocks = z at *
            generalize (eth l k).s = z3 at *
            go_wp2_with fail
            go_roundw
            case rel => exact ⟨k + 1, by omega, by go_num, by trivial, hn2⟩
            case measure => simp [intOf]; omega
      · have hC2 := hid (hC.out.2 (hPN0.out (fun j hj => hno.out j (by omega))))
        have hbe := hBG.out.2.1
        have hbb := hid (fun k (hk : k ≤ l.length) => show 1 ≤ begN l k ∧ begN l k ≤ 9000 by have := hBG.out.2.2 k hk; omega)
        have hei := hGF.out.2.2.2
        have hgp2 := hid (beg_good hGp)
        have hkn : ¬ (k : Int) < (l.length : Int) := by omega
        clear hno hC hPN0 hPN1 hGF hBG hN
        go_wp2_with fail
        refine (blocks_any size r _ l _ h hbb.out).mono ?_
        rintro e w' ⟨rfl, rfl⟩
        rw [hbe]
        generalize hee : endI l = E at *
        replace hee := hid hee
        have hwe : IntKind.i64.wrap (E + n) = E + n := IntWalk.i64_in _ (by omega)
        by_cases hfull : E + n ≤ 4096
        · obtain ⟨p1, p2, p3⟩ := hC2.out
          rw [if_pos hfull] at p1 p2 p3
          have hnf : ¬ 4096 < E + n := by omega
          go_wp2_with (at_builtin; refine wpList_appendAny _ rfl _ _ 83 rfl w.heap.size 87 i0 _ 3 32 Try.underlying83 hi0 hz0 hz1 hz2 rfl (by decide) _ _ _ rfl (World.ownsRow_nil _ _ _ _) _ _ _ _ rfl hr.out (rents_one _) (by unfold maxLen; omega) (by omega) (Nat.le_refl _) ?_)
          intro v1 w1 own1 hg1
          have hx1 : Hid (Ext w w1) := ext_push (Ext.refl w) (World.ownsRow_nil w w.heap.size 87 3) hg1
          obtain ⟨A1, e1, rfl, -⟩ := own_form own1
          try simp only [List.nil_append, Nat.zero_add] at own1
          replace own1 := hid own1
          clear hg1 hC2
          go_wp2_with (at_builtin; refine wpList_push _ rfl _ _ 83 rfl w.heap.size 87 i0 _ 3 32 Try.underlying83 hi0 hz0 hz1 hz2 rfl (by decide) _ _ _ rfl own1.out [.int .i64 n, .bool false, .string s] rfl rfl (by simp [Value.oneCell']) (by unfold maxLen; omega) (by omega) hx1.out.size ?_)
          intro g2 d2 w2 own2 hg2 _
          have hx2 : Hid (Ext w w2) := ext_push hx1.out own1.out hg2
          clear hg2 own1 hx1
          replace own2 := hid own2
          have hpl : PL.length = l.length + 1 := by rw [p3]; simp
          have hprt : Hid (rents PL = rents l ++ [.int .i64 n, .bool false, .string s]) := by rw [p3]; unfold Hid; rw [rents_append]; simp [rents, rcells]
          have hpre : Hid (PL.take l.length = l.take l.length) := by rw [p3]; unfold Hid; simp
          replace p1 := hid p1
          replace p2 := hid p2
          clear p3
          obtain ⟨hR, hT⟩ := h.fresh hx2.out own2.out (l' := PL) (by rw [hpl]) hprt.out.symm
          replace hR := hid hR
          replace hT := hid hT
          have c12 := hx2.out.cell c1
          have f12 := (h.ext hx2.out).free 1
          have lg2 := World.block_lt_of_cell? w2 _ c12
          dsimp only at lg2
          have hwl : IntKind.i64.wrap (((l.length + 1 : Nat) : Int) - 1) = (l.length : Int) := by rw [IntWalk.i64_in _ (by omega)]; omega
          go_wp2_with fail
          refine (begin_any size r _ PL l.length _ hR.out (by omega) (fun k hk => by have := hgp2.out.2.2 k hk; omega)).mono ?_
          rintro e w' ⟨rfl, rfl⟩
          rw [begN_pre (l' := PL) (l := l) (i := l.length) hpre.out, hbe]
          go_wp2
          go_ret2
          exact ⟨by rw [p1.out, p2.out]; rfl, _, hR.out, hT.out⟩
        · obtain ⟨p1, p2, p3⟩ := hC2.out
          rw [if_neg hfull] at p1 p2 p3
          have hnf : 4096 < E + n := by omega
          replace p1 := hid p1
          replace p2 := hid p2
          replace p3 := hid p3
          clear hC2 hfull
          go_wp2
          go_ret2
          exact ⟨by rw [p1.out, p2.out]; rfl, _, by rw [p3.out]; exact h, RT.refl _ _ _⟩
end Go.Proofs.Ytcgjhloiokpicaa
