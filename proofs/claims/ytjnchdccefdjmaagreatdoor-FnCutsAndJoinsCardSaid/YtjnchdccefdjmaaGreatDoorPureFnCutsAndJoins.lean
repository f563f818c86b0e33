/- Proved here: the pure part of law FnCutsAndJoins: the Lean function printed for it answers true at all its inputs. -/
import Derived.Test.YtjnchdccefdjmaaGreatDoorBFnCutsAndJoins
namespace Go.Proofs.YtjnchdccefdjmaaGreatDoor.Pure
open Go.RowKit Go.Proofs.YtjnchdccefdjmaaGreatDoor.QFnCutsAndJoins Go.Proofs.YtjnchdccefdjmaaGreatDoorW.PrintWords Go.Proofs.YtjnchdccefdjmaaGreatDoorW.PrintLast Go.Proofs.YtjnchdccefdjmaaGreatDoor.Math
set_option linter.unusedVariables false
set_option linter.unusedSimpArgs false

/-- how many lie ahead of j -/
theorem cntB_app (a b : List Int) (j : Int) : ((a ++ b).countP fun x => decide (x < j)) = (a.countP fun x => decide (x < j)) + (b.countP fun x => decide (x < j)) := List.countP_append
theorem cntB_all (a : List Int) (j : Int) (h : ∀ x ∈ a, x < j) : (a.countP fun x => decide (x < j)) = a.length := List.countP_eq_length.mpr (fun x hx => decide_eq_true (h x hx))
theorem cntB_none (a : List Int) (j : Int) (h : ∀ x ∈ a, j ≤ x) : (a.countP fun x => decide (x < j)) = 0 := List.countP_eq_zero.mpr (fun x hx hc => by have h1 := of_decide_eq_true hc; have h2 := h x hx; omega)
theorem cntB_shift (b : List Int) (n j : Int) : ((b.map fun x => x + n).countP fun x => decide (x < j + n)) = b.countP fun x => decide (x < j) := by
  rw [List.countP_map]
  refine List.countP_congr (fun x _ => ?_)
  simp only [Function.comp, decide_eq_true_eq]
  omega
theorem ge_shift (b : List Int) (n j : Int) : ge (b.map fun x => x + n) j = ge b (j - n) := by
  unfold ge
  rw [List.countP_map]
  refine List.countP_congr (fun x _ => ?_)
  simp only [Function.comp, decide_eq_true_eq]
  omega
theorem cuts_app (l : List Int) : ∀ (d e j : Nat), cutsFrom l j (d + e) = cutsFrom l j d ++ cutsFrom l (j + d) e
  | 0, e, j => by rw [Nat.zero_add, Nat.add_zero]; rfl
  | d + 1, e, j => by
    have ih := cuts_app l d e (j + 1)
    rw [show d + 1 + e = (d + e) + 1 by omega, show j + (d + 1) = j + 1 + d by omega]
    simp only [cutsFrom]
    split
    · rw [ih]; rfl
    · exact ih
theorem cuts_low (l : List Int) : ∀ (d j : Nat), ∀ x ∈ cutsFrom l j d, 0 ≤ x ∧ x < ((j + d : Nat) : Int)
  | 0, j, x, h => by cases h
  | d + 1, j, x, h => by
    have ih := cuts_low l d (j + 1) x
    simp only [cutsFrom] at h
    split at h
    · rcases List.mem_cons.mp h with h | h
      · omega
      · have := ih h; omega
    · have := ih h; omega
theorem cuts_same (c a : List Int) : ∀ (d j : Nat), (∀ i : Nat, j ≤ i → i < j + d → (c.countP fun x => decide (x < (i : Int))) = a.countP fun x => decide (x < (i : Int))) → cutsFrom c j d = cutsFrom a j d
  | 0, j, h => rfl
  | d + 1, j, h => by
    simp only [cutsFrom]
    rw [h j (by omega) (by omega), cuts_same c a d (j + 1) (fun i h1 h2 => h i (by omega) (by omega))]
theorem cuts_shift (c b : List Int) (n : Nat) : ∀ (d j : Nat), (∀ i : Nat, j ≤ i → i < j + d → (c.countP fun x => decide (x < ((n + i : Nat) : Int))) = n + b.countP fun x => decide (x < (i : Int))) → cutsFrom c (n + j) d = (cutsFrom b j d).map fun x => x + (n : Int)
  | 0, j, h => rfl
  | d + 1, j, h => by
    have h1 := h j (by omega) (by omega)
    have ih := cuts_shift c b n d (j + 1) (fun i h1 h2 => h i (by omega) (by omega))
    by_cases e : (b.countP fun x => decide (x < (j : Int))) = j
    · rw [cutsFrom_yes b j d e, cutsFrom_yes c (n + j) d (by omega), List.map_cons, Nat.add_assoc, ih, show ((n + j : Nat) : Int) = (j : Int) + (n : Int) by omega]
    · rw [cutsFrom_no b j d e, cutsFrom_no c (n + j) d (by omega), Nat.add_assoc, ih]
/-- the joined list -/
def jn (a b : List Int) : List Int := a ++ b.map fun x => x + (a.length : Int)
theorem jn_is (a b : List Int) (ha : a.length ≤ 8) (hb : b.length ≤ 8) (h : ∀ x ∈ b, 0 ≤ x ∧ x < (b.length : Int)) : a ++ b.map (fun x => wrap64 (x + (a.length : Int))) = jn a b := by
  unfold jn
  congr 1
  refine List.map_congr_left (fun x hx => ?_)
  have := h x hx
  exact wrap_id _ (by omega) (by omega)
theorem jn_pk (a b : List Int) (ha : isPk a = true) (hb : isPk b = true) (h8 : a.length + b.length ≤ 8) : isPk (jn a b) = true := by
  obtain ⟨_, ax, ap⟩ := (isPk_parts a).mp ha
  obtain ⟨_, bx, bp⟩ := (isPk_parts b).mp hb
  have hl : (jn a b).length = a.length + b.length := by simp [jn]
  have hx : ∀ x ∈ jn a b, 0 ≤ x ∧ x < ((jn a b).length : Int) := fun x hx => by
    rcases List.mem_append.mp hx with h | h
    · have := ax x h; omega
    · obtain ⟨y, hy, rfl⟩ := List.mem_map.mp h
      have := bx y hy
      omega
  refine (isPk_parts _).mpr ⟨by omega, hx, (park_iff _ _ hx).mpr (fun j j0 j1 => ?_)⟩
  have ga := (park_iff a a.length ax).mp ap
  have gb := (park_iff b b.length bx).mp bp
  unfold jn
  rw [ge_append, ge_shift, show ((a ++ b.map fun x => x + (a.length : Int)).length : Int) = ((jn a b).length : Int) from rfl]
  by_cases c : j < (a.length : Int)
  · have h1 := ga j j0 c
    have h2 : ge b (j - (a.length : Int)) ≤ b.length := List.countP_le_length
    omega
  · have h1 : ge a j = 0 := by
      unfold ge
      refine List.countP_eq_zero.mpr (fun x hx hc => ?_)
      have h1 := of_decide_eq_true hc
      have h2 := ax x hx
      omega
    have h2 := gb (j - (a.length : Int)) (by omega) (by omega)
    omega
theorem jn_cuts (a b : List Int) (ha : ∀ x ∈ a, 0 ≤ x ∧ x < (a.length : Int)) (hb : ∀ x ∈ b, 0 ≤ x ∧ x < (b.length : Int)) : cutsFrom (jn a b) 1 ((jn a b).length - 1) = cutsFrom a 1 (a.length - 1) ++ ((if 0 < a.length ∧ 0 < b.length then [(a.length : Int)] else []) ++ (cutsFrom b 1 (b.length - 1)).map fun x => x + (a.length : Int)) := by
  have hl : (jn a b).length = a.length + b.length := by simp [jn]
  have lo : ∀ i : Nat, i ≤ a.length → ((jn a b).countP fun x => decide (x < (i : Int))) = a.countP fun x => decide (x < (i : Int)) := fun i hi => by
    unfold jn
    rw [cntB_app, cntB_none (b.map fun x => x + (a.length : Int)) i (fun x hx => by
      obtain ⟨y, hy, rfl⟩ := List.mem_map.mp hx
      have := hb y hy
      omega), Nat.add_zero]
  have hi : ∀ i : Nat, ((jn a b).countP fun x => decide (x < ((a.length + i : Nat) : Int))) = a.length + b.countP fun x => decide (x < (i : Int)) := fun i => by
    unfold jn
    rw [cntB_app, cntB_all a _ (fun x hx => by have := ha x hx; omega), show ((a.length + i : Nat) : Int) = (i : Int) + (a.length : Int) by omega, cntB_shift]
  rw [hl]
  by_cases a0 : 0 < a.length
  · by_cases b0 : 0 < b.length
    · rw [if_pos ⟨a0, b0⟩, show a.length + b.length - 1 = (a.length - 1) + (1 + (b.length - 1)) by omega, cuts_app, cuts_app, cuts_same (jn a b) a (a.length - 1) 1 (fun i h1 h2 => lo i (by omega)), show 1 + (a.length - 1) = a.length by omega, cuts_shift (jn a b) b a.length (b.length - 1) 1 (fun i _ _ => hi i)]
      congr 2
      have h1 := hi 0
      rw [Nat.add_zero, cntB_none b ((0 : Nat) : Int) (fun x hx => by have := hb x hx; omega), Nat.add_zero] at h1
      rw [cutsFrom_yes _ _ _ h1]
      rfl
    · have e : b = [] := List.eq_nil_of_length_eq_zero (by omega)
      subst e
      rw [if_neg (fun h => b0 h.2), List.length_nil, Nat.add_zero, cuts_same (jn a []) a (a.length - 1) 1 (fun i h1 h2 => lo i (by omega))]
      simp [cutsFrom]
  · have e : a = [] := List.eq_nil_of_length_eq_zero (by omega)
    subst e
    rw [if_neg (fun h => a0 h.1)]
    have h1 := cuts_shift (jn [] b) b 0 (b.length - 1) 1 (fun i _ _ => by simpa using hi i)
    rw [Nat.zero_add] at h1
    rw [List.length_nil, Nat.zero_add, h1]
    rfl
/-! texts of one digit numbers -/
theorem split_tail : ∀ (l : List Int) (cur : List UInt8), (∀ x ∈ l, 0 ≤ x ∧ x < 10) → splitF cur (tailL l) = cur :: l.map fun x => Lib.decDigits x.toNat
  | [], cur, _ => rfl
  | x :: l, cur, h => by
    have hx := h x List.mem_cons_self
    have hd := dig_one x.toNat (by omega)
    have hne : ¬ UInt8.ofNat (48 + x.toNat) = 32 := fun e => by
      have e2 : (UInt8.ofNat (48 + x.toNat)).toNat = (32 : UInt8).toNat := by rw [e]
      have e3 : (UInt8.ofNat (48 + x.toNat)).toNat = 48 + x.toNat := by simp; omega
      have e4 : (32 : UInt8).toNat = 32 := rfl
      omega
    rw [tailL_cons, hd]
    simp only [List.cons_append, List.nil_append, splitF, if_pos, if_neg hne, List.map_cons]
    rw [split_tail l _ (fun y hy => h y (List.mem_cons_of_mem _ hy)), hd]
theorem digs_map : ∀ (l : List Int), (∀ x ∈ l, 0 ≤ x ∧ x < 10) → digs (l.map fun x => Lib.decDigits x.toNat) = some l
  | [], _ => rfl
  | x :: l, h => by
    have hx := h x List.mem_cons_self
    simp only [List.map_cons, digs, digW_of x.toNat (by omega), Option.bind_some, digs_map l (fun y hy => h y (List.mem_cons_of_mem _ hy))]
    rw [show ((x.toNat : Nat) : Int) = x by omega]
theorem ppR_text (l : List Int) (h : isPk l = true) : ppR (textL l) = (l, true) := by
  have h10 := (isPk_ten l h).2
  cases l with
  | nil => rfl
  | cons x l =>
    have hx := h10 x List.mem_cons_self
    have hd := dig_one x.toNat (by omega)
    have e : splitF [] (textL (x :: l)) = (x :: l).map fun x => Lib.decDigits x.toNat := by
      have := split_tail (x :: l) [] h10
      rw [tailL_cons] at this
      simp only [List.cons_append, splitF, if_pos] at this
      injection this
    unfold ppR
    rw [e, digs_map _ h10, if_neg (by simp only [textL]; rw [hd]; simp)]
    dsimp only
    rw [if_pos h]
theorem ppR_back (s : List UInt8) (h : (ppR s).2 = true) : isPk (ppR s).1 = true ∧ textL (ppR s).1 = s := by
  unfold ppR at h ⊢
  split at h
  · rename_i e
    rw [if_pos e, e]
    exact ⟨by decide, rfl⟩
  · rename_i e
    rw [if_neg e]
    cases hd : digs (splitF [] s) with
    | none => rw [hd] at h; cases h
    | some l =>
      rw [hd] at h
      dsimp only at h ⊢
      by_cases c : isPk l = true
      · rw [if_pos c]
        exact ⟨c, digs_text s l hd⟩
      · rw [if_neg c] at h
        cases h
theorem bs_toList (l : List UInt8) : (bs l).data.toList = l := by simp [bs]
theorem cj_j8 (t : ByteArray) (ht : t.size ≤ 1048576) : Ev (fun k => laws_FnCutsAndJoins.j8 k t (ppR t.data.toList).1 (ppR t.data.toList).2 false) true := by
  refine Ev.step (fun k => laws_FnCutsAndJoins.j8.eq_2 ..) (ev_neg (by decide) ?_)
  by_cases c : (ppR t.data.toList).2 = true
  · obtain ⟨h1, h2⟩ := ppR_back _ c
    have hlen := ppR_len t.data.toList
    have I := impl_ParkText.ev (ppR t.data.toList).1 (by omega)
    unfold ptR at I
    rw [if_pos h1, h2, bs_list] at I
    exact ev_pos c (Ev.bind I (ev_pos rfl (ev_val (Ev.now _) (by simp))))
  · exact ev_neg c (Ev.now _)
theorem cj_j7 (l1 : List Int) (hb : bytesOk l1) : Ev (fun k => laws_FnCutsAndJoins.j7 k l1) true := by
  obtain ⟨t, D, ht⟩ := spec_DrawParsePark.ok l1 hb
  have hlen := ppR_len t.data.toList
  have J := laws_jSame.ev_self (ppR t.data.toList).1 (by omega)
  exact Ev.step (fun k => laws_FnCutsAndJoins.j7.eq_2 ..) (Ev.bind D (Ev.bind (impl_ParsePark.ev t (by omega)) (Ev.bind (spec_ParsePark.ev t (by omega)) (ev_neg (by simp) (Ev.bind J (cj_j8 t (by omega)))))))
theorem cj_j6 (l1 : List Int) (hb : bytesOk l1) (l : List Int) : Ev (fun k => laws_FnCutsAndJoins.j6 k l1 l (ptR l).1 (ptR l).2 false) true := by
  refine Ev.step (fun k => laws_FnCutsAndJoins.j6.eq_2 ..) (ev_neg (by decide) ?_)
  by_cases c : isPk l = true
  · have h10 := isPk_ten l c
    have hlen := textL_len l h10.2
    have J := laws_jSame.ev_self l (by omega)
    unfold ptR
    rw [if_pos c]
    have I := impl_ParsePark.ev (bs (textL l)) (by rw [bs_size]; omega)
    rw [bs_toList, ppR_text l c] at I
    exact ev_pos rfl (Ev.bind I (ev_pos rfl (Ev.bind J (ev_pos rfl (cj_j7 l1 hb)))))
  · unfold ptR
    rw [if_neg c]
    exact ev_neg (by simp) (cj_j7 l1 hb)
theorem cj_j5 (l1 : List Int) (hb : bytesOk l1) : Ev (fun k => laws_FnCutsAndJoins.j5 k l1) true := by
  obtain ⟨l, D, hl⟩ := spec_DrawParkText.ok l1 hb
  have J := cj_j6 l1 hb l
  refine Ev.step (fun k => laws_FnCutsAndJoins.j5.eq_2 ..) (Ev.bind D (Ev.bind (impl_ParkText.ev l (by omega)) (Ev.bind (spec_ParkText.ev l (by omega)) (ev_neg (by simp) ?_))))
  rw [show ((ptR l).1.toList != (ptR l).1.toList) = false by simp]
  exact J
theorem cj_l0 (l1 : List Int) (hb : bytesOk l1) (a c y : List Int) (ha : a.length ≤ 8) (hy : y.length ≤ 8) (hy2 : ∀ x ∈ y, 0 ≤ x ∧ x < 10) (hc : c.length ≤ 20) : ∀ (d i : Nat) (out : List Int), i + d = y.length → out.length ≤ 20 → c = out ++ (y.drop i).map (fun x => x + (a.length : Int)) → Ev (fun k => laws_FnCutsAndJoins.l0 k l1 a c out y (y.length : Int) (i : Int)) true
  | 0, i, out, hi, ho, h => by
    rw [List.drop_of_length_le (by omega)] at h
    have e : c = out := by simpa using h
    subst e
    exact Ev.step (fun k => laws_FnCutsAndJoins.l0.eq_2 ..) (ev_neg (by omega) (Ev.bind (laws_jSame.ev_self c (by omega)) (ev_pos rfl (cj_j5 l1 hb))))
  | d + 1, i, out, hi, ho, h => by
    have hx := hy2 (y[i]'(by omega)) (List.getElem_mem (by omega))
    rw [List.drop_eq_getElem_cons (by omega), List.map_cons] at h
    have hlen : c.length = _ := congrArg List.length h
    rw [List.length_append, List.length_cons] at hlen
    refine Ev.step (fun k => laws_FnCutsAndJoins.l0.eq_2 ..) (ev_pos (by omega) (ev_pos (by omega) (ev_pos (by omega) (ev_pos (by omega) ?_))))
    rw [rd_nat y i (by omega), wrap_nat i (by omega), wrap_id _ (by omega) (by omega)]
    exact cj_l0 l1 hb a c y ha hy hy2 hc d (i + 1) _ (by omega) (by rw [List.length_append, List.length_singleton]; omega) (by rw [h, List.append_assoc]; rfl)
theorem cuts_len (l : List Int) : ∀ (d j : Nat), (cutsFrom l j d).length ≤ d
  | 0, j => by simp [cutsFrom]
  | d + 1, j => by
    have := cuts_len l d (j + 1)
    simp only [cutsFrom]
    split
    · simp only [List.length_cons]; omega
    · omega
theorem cj_j0 (l1 : List Int) (hb1 : bytesOk l1) (a b : List Int) (hal : a.length ≤ 9) (hbl : b.length ≤ 9) : Ev (fun k => laws_FnCutsAndJoins.j0 k l1 a b (joinR a b).1 (joinR a b).2 false) true := by
  refine Ev.step (fun k => laws_FnCutsAndJoins.j0.eq_2 ..) (ev_neg (by decide) ?_)
  by_cases c : (joinR a b).2 = true
  · have hh : isPk a = true ∧ isPk b = true ∧ a.length + b.length ≤ 8 := by
      unfold joinR at c
      split at c
      · rename_i h1
        split at c
        · rename_i h2
          split at c
          · rename_i h3
            exact ⟨h1, h2, h3⟩
          · cases c
        · cases c
      · cases c
    obtain ⟨pa, pb, h8⟩ := hh
    obtain ⟨_, ax, _⟩ := (isPk_parts a).mp pa
    obtain ⟨_, bx, _⟩ := (isPk_parts b).mp pb
    have ej : (joinR a b).1 = jn a b := by
      unfold joinR
      rw [if_pos pa, if_pos pb, if_pos h8]
      exact jn_is a b (by omega) (by omega) bx
    have pc := jn_pk a b pa pb h8
    have hl : (jn a b).length = a.length + b.length := by simp [jn]
    have hcut := jn_cuts a b ax bx
    refine ev_pos c ?_
    rw [ej]
    obtain ⟨_, cx, _⟩ := (isPk_parts _).mp pc
    have A := impl_CutsOf.ev a (by omega)
    have B := impl_CutsOf.ev b (by omega)
    have C := impl_CutsOf.ev (jn a b) (by omega)
    have I := impl_IsParking.ev (jn a b) (by omega)
    unfold cutsR at A B C
    rw [if_pos pa] at A
    rw [if_pos pb] at B
    rw [if_pos pc, hcut] at C
    have hin : (decide ((jn a b).length ≤ 8) && inAll 0 99 (jn a b)) = true := by
      rw [Bool.and_eq_true, decide_eq_true_eq, inAll_iff]
      exact ⟨by omega, fun x hx => by have := cx x hx; omega⟩
    rw [if_pos hin, pc] at I
    have la := cuts_len a (a.length - 1) 1
    have lb := cuts_len b (b.length - 1) 1
    have lowb := cuts_low b (b.length - 1) 1
    generalize cutsFrom a 1 (a.length - 1) = x at A C la
    generalize cutsFrom b 1 (b.length - 1) = y at B C lb lowb
    refine Ev.bind A (Ev.bind B (Ev.bind C (Ev.bind I (ev_pos rfl (ev_pos rfl (ev_pos rfl (ev_pos rfl ?_)))))))
    refine Ev.step (fun k => laws_FnCutsAndJoins.j1.eq_2 ..) (ev_neg (by decide) (ev_pos (by show 0 + x.length < 17592186044416; omega) (Ev.bind (ev_eq rfl) ?_)))
    have fin : ∀ out : List Int, out.length ≤ 10 → x ++ ((if 0 < a.length ∧ 0 < b.length then [(a.length : Int)] else []) ++ y.map fun x => x + (a.length : Int)) = out ++ y.map (fun x => x + (a.length : Int)) → Ev (fun k => laws_FnCutsAndJoins.j3 k l1 a y (x ++ ((if 0 < a.length ∧ 0 < b.length then [(a.length : Int)] else []) ++ y.map fun x => x + (a.length : Int))) out) true := fun out ho e => by
      refine Ev.step (fun k => laws_FnCutsAndJoins.j3.eq_2 ..) ?_
      exact cj_l0 l1 hb1 a _ y (by omega) (by omega) (fun z hz => by have := lowb z hz; omega) (by rw [e, List.length_append, List.length_map]; omega) y.length 0 out (by omega) (by omega) (by rw [List.drop_zero]; exact e)
    have yes : 0 < a.length → 0 < b.length → Ev (fun k => laws_FnCutsAndJoins.j2 k l1 a y (x ++ ((if 0 < a.length ∧ 0 < b.length then [(a.length : Int)] else []) ++ y.map fun x => x + (a.length : Int))) ([] ++ x) true) true := fun h1 h2 => by
      refine Ev.step (fun k => laws_FnCutsAndJoins.j2.eq_2 ..) (ev_pos rfl (ev_pos (by rw [List.nil_append]; omega) (fin _ (by simp; omega) ?_)))
      rw [if_pos ⟨h1, h2⟩, List.nil_append, List.append_assoc]
    have no : ¬ (0 < a.length ∧ 0 < b.length) → Ev (fun k => laws_FnCutsAndJoins.j2 k l1 a y (x ++ ((if 0 < a.length ∧ 0 < b.length then [(a.length : Int)] else []) ++ y.map fun x => x + (a.length : Int))) ([] ++ x) false) true := fun h => by
      refine Ev.step (fun k => laws_FnCutsAndJoins.j2.eq_2 ..) (ev_neg (by decide) (fin _ (by simp; omega) ?_))
      rw [if_neg h, List.nil_append, List.nil_append]
    by_cases a0 : (a.length : Int) > 0
    · refine ev_pos a0 ?_
      by_cases b0 : (b.length : Int) > 0
      · rw [decide_eq_true b0]
        exact yes (by omega) (by omega)
      · rw [decide_eq_false b0]
        exact no (by omega)
    · exact ev_neg a0 (no (by omega))
  · exact ev_neg c (cj_j5 l1 hb1)
theorem FnCutsAndJoins : laws_FnCutsAndJoins.Pure := by
  intro l0 l1 _ _ h0 _ _ h1
  refine Ev.rounds ?_
  simp only [laws_FnCutsAndJoins.f]
  rcases laws_big.is l0 l1 with hB | ⟨hB, hl⟩
  · exact Ev.bind (ev_eq hB) (ev_pos rfl (Ev.now _))
  have b0 : bytesOk l0 := ⟨fun x hx => u8_of_wf x (h0 x hx), by omega⟩
  have b1 : bytesOk l1 := ⟨fun x hx => u8_of_wf x (h1 x hx), by omega⟩
  obtain ⟨a, b, D, ha, hb⟩ := spec_DrawJoinParking.ok l0 b0
  have hlen := joinR_len a b
  exact Ev.bind (ev_eq hB) (ev_neg (by decide) (Ev.bind D (Ev.bind (impl_JoinParking.ev a b (by omega) (by omega)) (Ev.bind (spec_JoinParking.ev a b (by omega) (by omega)) (ev_neg (by simp) (Ev.bind (laws_jSame.ev_self (joinR a b).1 (by omega)) (cj_j0 l1 b1 a b ha hb)))))))

end Go.Proofs.YtjnchdccefdjmaaGreatDoor.Pure
