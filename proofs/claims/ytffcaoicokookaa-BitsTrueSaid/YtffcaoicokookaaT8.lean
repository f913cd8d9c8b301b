import Derived.Test.YtffcaoicokookaaP1
namespace Go.Proofs.Ytffcaoicokookaa
open Go.RowKit
def valB (s m : List Int) : Bool := isSetS 300 s && isSetS 300 m && decide ((joinS andNot s m).length = 0)
def errOf (b : Bool) : Int := if b then 0 else 1

set_option maxRecDepth 100000 in
set_option maxHeartbeats 400000 in
theorem Validate_any (A : Option Addr) (n c : Nat) (l : List Int) (B : Option Addr) (m d : Nat) (r : List Int) (w : World) (hs : RdI w A n c l) (ht : RdI w B m d r) (hn : n ≤ 3000) (hm : m ≤ 3000) :
    Calls Try.prog 22 #[.agg #[.slice A n c, .slice B m d]] w (Give (.int .i64 (errOf (valB l r))) w) := by
  have hent := enter50
  by_cases h1 : isSetS 300 l = true
  · by_cases h2 : isSetS 300 r = true
    · have hv : valB l r = decide ((joinS andNot l r).length = 0) := by simp [valB, h1, h2]
      have Hv := hid hv
      clear hv
      go_enter Try.func22, Try.ntmps22
      go_wp2_with fail
      refine (isSet_any _ _ _ _ _ _ (hs.alloc _)).mono ?_
      rintro e w' ⟨rfl, k1, rfl⟩
      go_wp2_with fail
      refine (isSet_any _ _ _ _ _ _ (RdI.drewN (ht.alloc _) _)).mono ?_
      rintro e w' ⟨rfl, k2, rfl⟩
      go_wp2_with fail
      refine (joined_any 50 andNot hent inFirst50 _ _ _ _ _ _ _ _ _ (RdI.drewN (hs.alloc _) _) (RdI.drewN (ht.alloc _) _) (by omega)).mono ?_
      rintro e W ⟨C, j, cj, rfl, hj, hx, -⟩
      have hW : Ext w W := Ext.trans (Ext.drewN_right ((Ext.refl w).alloc_right _) _) hx
      have hjl := hj.len
      by_cases hj0 : j = 0
      · have d : decide (0 < j) = false := by simp; omega
        have fin : errOf (valB l r) = 0 := by rw [Hv.out, hjl]; simp [hj0, errOf]
        have Fin := hid fin
        clear fin hjl
        subst hj0
        go_wp2
        go_ret
        exact ⟨ret_int Fin.out.symm, hW⟩
      · have d : decide (0 < j) = true := by simp; omega
        have fin : errOf (valB l r) = 1 := by rw [Hv.out, hjl]; simp [hj0, errOf]
        have Fin := hid fin
        clear fin hjl
        have hj1 : 0 < j := by omega
        go_wp2
        go_ret
        exact ⟨ret_int Fin.out.symm, hW⟩
    · replace h2 : isSetS 300 r = false := by simpa using h2
      have Fin : Hid (errOf (valB l r) = 1) := by simp [Hid, valB, h2, errOf]
      go_enter Try.func22, Try.ntmps22
      go_wp2_with fail
      refine (isSet_any _ _ _ _ _ _ (hs.alloc _)).mono ?_
      rintro e w' ⟨rfl, k1, rfl⟩
      go_wp2_with fail
      refine (isSet_any _ _ _ _ _ _ (RdI.drewN (ht.alloc _) _)).mono ?_
      rintro e w' ⟨rfl, k2, rfl⟩
      go_wp2
      go_ret
      exact ⟨ret_int Fin.out.symm, Ext.drewN_right ((Ext.refl w).alloc_right _) _⟩
  · replace h1 : isSetS 300 l = false := by simpa using h1
    have Fin : Hid (errOf (valB l r) = 1) := by simp [Hid, valB, h1, errOf]
    go_enter Try.func22, Try.ntmps22
    go_wp2_with fail
    refine (isSet_any _ _ _ _ _ _ (hs.alloc _)).mono ?_
    rintro e w' ⟨rfl, k1, rfl⟩
    go_wp2
    go_ret
    exact ⟨ret_int Fin.out.symm, Ext.drewN_right ((Ext.refl w).alloc_right _) _⟩

def rvalB (s m : List Int) : Bool := isSetS 300 s && isSetS 300 m && s.all (hasS m)
theorem rval_eq (s m : List Int) : rvalB s m = valB s m := by
  unfold rvalB valB
  by_cases h1 : isSetS 300 s = true
  · by_cases h2 : isSetS 300 m = true
    · rw [join_first (pw_set h1) (pw_set h2)]
      unfold lessS
      rw [filtS_all]
      congr 1
      rw [Bool.eq_iff_iff, decide_eq_true_iff, List.length_eq_zero_iff, List.filter_eq_nil_iff, List.all_eq_true]
      simp [notHas]
    · simp [h2]
  · simp [h1]
def allTo (s m : List Int) (k : Nat) : Bool := (s.take k).all (hasS m)
theorem allTo_succ (s m : List Int) (k : Nat) (hk : k < s.length) (h : allTo s m k = true) (h' : hasS m (nth s k) = true) : allTo s m (k+1) = true := by
  unfold allTo at *
  rw [List.take_succ_eq_append_getElem hk, List.all_append, h, ← nth_lt hk]
  simp [h']
theorem rval_no (s m : List Int) (k : Nat) (hk : k < s.length) (h : hasS m (nth s k) = false) : rvalB s m = false := by
  unfold rvalB
  have : s.all (hasS m) = false := by
    rw [List.all_eq_false]
    exact ⟨s[k], List.getElem_mem _, by rw [← nth_lt hk, h]; simp⟩
  simp [this]
theorem rval_yes (s m : List Int) (h1 : isSetS 300 s = true) (h2 : isSetS 300 m = true) (h : allTo s m s.length = true) : rvalB s m = true := by
  unfold allTo at h
  rw [List.take_length] at h
  simp only [rvalB, h1, h2, h, Bool.and_self]

set_option maxRecDepth 100000 in
set_option maxHeartbeats 400000 in
theorem rValidate_any (A : Option Addr) (n c : Nat) (l : List Int) (B : Option Addr) (m d : Nat) (r : List Int) (w : World) (hs : RdI w A n c l) (ht : RdI w B m d r) :
    Calls Try.prog 23 #[.agg #[.slice A n c, .slice B m d]] w (Give (.int .i64 (errOf (rvalB l r))) w) := by
  have hmx := hs.max
  by_cases h1 : isSetS 300 l = true
  · by_cases h2 : isSetS 300 r = true
    · have Hyes := hid (rval_yes l r h1 h2)
      have Hl := hid hs.len
      go_enter Try.func23, Try.ntmps23
      go_wp2_with fail
      refine (IsSet_any _ _ _ _ _ (hs.alloc _)).mono ?_
      rintro e w' ⟨rfl, k1, rfl⟩
      go_wp2_with fail
      refine (IsSet_any _ _ _ _ _ (RdI.drewN (ht.alloc _) _)).mono ?_
      rintro e w' ⟨rfl, k2, rfl⟩
      go_wp2_with fail
      clear h1 h2
      go_loopw [3] (fun i wr => (∃ j : Nat, j ≤ n ∧ i = .int .i64 j ∧ allTo l r j = true) ∧ Ext (w.alloc (.cells #[.slice A n c, .slice B m d] 29)) wr) (fun i _ => n - (intOf i).toNat)
      case atStart => exact ⟨⟨0, by omega, rfl, by simp [allTo]⟩, Ext.drewN _ _⟩
      case round =>
        obtain ⟨⟨j, hj, rfl, hno⟩, hx⟩ := hrel
        have Hno := hid hno; clear hno
        have c0 : wr.cell? ⟨w.heap.size, 0, none⟩ = some (.slice A n c) := hx.cell (by rw [World.cell?_alloc_at _ _ _ _ (by simp)]; rfl)
        have c1 : wr.cell? ⟨w.heap.size, 1, none⟩ = some (.slice B m d) := hx.cell (by rw [World.cell?_alloc_at _ _ _ _ (by simp)]; rfl)
        have hs1 := (hs.alloc _).ext hx
        have ht1 := (ht.alloc _).ext hx
        by_cases hlt : j < n
        · obtain ⟨ad, rfl, hc⟩ := hs1.at_ hlt
          have hjl : j < l.length := by rw [Hl.out]; exact hlt
          by_cases hh : hasS r (nth l j) = true
          · have Hnx := hid (allTo_succ l r j hjl Hno.out hh)
            clear hjl
            go_wp2
            go_quiet ((go_at_call 32; exact quiet_left (has_any _ _ _ _ _ _ (RdI.drewN ht1 _))))
            go_wp2
            go_roundw
            case rel => exact ⟨⟨j + 1, by omega, by go_num, Hnx.out⟩, hx.drewN_right _⟩
            case measure => simp [intOf]; omega
          · replace hh : hasS r (nth l j) = false := by simpa using hh
            have Fin : Hid (errOf (rvalB l r) = 1) := by unfold Hid; rw [rval_no l r j hjl hh]; rfl
            clear hjl
            go_wp2
            go_quiet ((go_at_call 32; exact quiet_left (has_any _ _ _ _ _ _ (RdI.drewN ht1 _))))
            go_wp2
            go_ret
            exact ⟨ret_int Fin.out.symm, Ext.trans ((Ext.refl w).alloc_right _) (hx.drewN_right _)⟩
        · have Fin : Hid (errOf (rvalB l r) = 0) := by
            unfold Hid
            rw [Hyes.out (by rw [Hl.out, ← show j = n by omega]; exact Hno.out)]; rfl
          go_wp2
          go_ret
          exact ⟨ret_int Fin.out.symm, Ext.trans ((Ext.refl w).alloc_right _) hx⟩
    · replace h2 : isSetS 300 r = false := by simpa using h2
      have Fin : Hid (errOf (rvalB l r) = 1) := by simp [Hid, rvalB, h2, errOf]
      go_enter Try.func23, Try.ntmps23
      go_wp2_with fail
      refine (IsSet_any _ _ _ _ _ (hs.alloc _)).mono ?_
      rintro e w' ⟨rfl, k1, rfl⟩
      go_wp2_with fail
      refine (IsSet_any _ _ _ _ _ (RdI.drewN (ht.alloc _) _)).mono ?_
      rintro e w' ⟨rfl, k2, rfl⟩
      go_wp2
      go_ret
      exact ⟨ret_int Fin.out.symm, Ext.drewN_right ((Ext.refl w).alloc_right _) _⟩
  · replace h1 : isSetS 300 l = false := by simpa using h1
    have Fin : Hid (errOf (rvalB l r) = 1) := by simp [Hid, rvalB, h1, errOf]
    go_enter Try.func23, Try.ntmps23
    go_wp2_with fail
    refine (IsSet_any _ _ _ _ _ (hs.alloc _)).mono ?_
    rintro e w' ⟨rfl, k1, rfl⟩
    go_wp2
    go_ret
    exact ⟨ret_int Fin.out.symm, Ext.drewN_right ((Ext.refl w).alloc_right _) _⟩
end Go.Proofs.Ytffcaoicokookaa
