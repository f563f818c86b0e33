/- Plain law: a text cut at its blanks; numbers of one digit; what the reference reads out of a text and what the program reads. -/
import Derived.Lib.SplitLaws
import Derived.Lib.ItoaNum
import Derived.Lib.AtoiAll
import Derived.Lib.Join
import Derived.Test.YtjnchdccefdjmaaGreatDoorMLesser
namespace Go.Proofs.YtjnchdccefdjmaaGreatDoor.Math
open Go.RowKit
set_option linter.unusedVariables false
set_option linter.unusedSimpArgs false

/-- the pieces between blanks; cur is what stands ahead -/
def splitF : List UInt8 → List UInt8 → List (List UInt8)
  | cur, [] => [cur]
  | cur, c :: r => if c = 32 then cur :: splitF [] r else splitF (cur ++ [c]) r
theorem splitF_head : ∀ (s : List UInt8), ∃ w ws, ∀ cur, splitF cur s = (cur ++ w) :: ws
  | [] => ⟨[], [], fun cur => by simp [splitF]⟩
  | c :: r => by
    obtain ⟨w, ws, h⟩ := splitF_head r
    by_cases e : c = 32
    · exact ⟨[], splitF [] r, fun cur => by simp [splitF, e]⟩
    · exact ⟨c :: w, ws, fun cur => by simp only [splitF, if_neg e]; rw [h, List.append_assoc]; rfl⟩
theorem splitF_join : ∀ (s cur : List UInt8), Lib.join (splitF cur s) [32] = cur ++ s
  | [], cur => by simp [splitF, Lib.join_one]
  | c :: r, cur => by
    by_cases e : c = 32
    · have ih := splitF_join r []
      obtain ⟨w, ws, h⟩ := splitF_head r
      simp only [splitF, if_pos e]
      rw [h [], Lib.join_cons] at ih
      rw [h [], Lib.join_cons]
      simp only [Lib.joinTail, List.map_cons, List.flatten_cons] at ih ⊢
      simp only [List.nil_append] at ih ⊢
      rw [e, List.append_assoc, ih]
      rfl
    · simp only [splitF, if_neg e]
      rw [splitF_join r (cur ++ [c]), List.append_assoc]
      rfl
theorem splitK_is : ∀ (s : List UInt8), Lib.splitK [32] 0 (Lib.count s [32]) s = splitF [] s
  | [] => by
    rw [Lib.count_miss (by simp [Lib.index])]
    rfl
  | c :: r => by
    have ih := splitK_is r
    by_cases e : c = 32
    · subst e
      have hix : Lib.index (32 :: r) [32] = 0 := by rw [Lib.index]; simp [List.isPrefixOf]
      rw [Lib.count_cons_eq, Nat.add_comm]
      simp only [Lib.splitK, hix, splitF, if_pos]
      rw [← ih]
      simp
    · rw [Lib.count_cons_ne c 32 r e]
      have hp : ([32] : List UInt8).isPrefixOf (c :: r) = false := by simp [List.isPrefixOf, Ne.symm e]
      have hix : Lib.index (c :: r) [32] = if Lib.index r [32] == -1 then -1 else Lib.index r [32] + 1 := by rw [Lib.index, hp]; simp
      obtain ⟨w, ws, h⟩ := splitF_head r
      have hg : splitF [] (c :: r) = (c :: w) :: ws := by
        simp only [splitF, if_neg e, List.nil_append]
        rw [h [c]]
        rfl
      rw [hg]
      rw [h []] at ih
      by_cases hm : Lib.index r [32] = -1
      · have h0 : Lib.count r [32] = 0 := Lib.count_miss hm
        rw [h0] at ih ⊢
        simp only [Lib.splitK, List.nil_append, List.cons.injEq] at ih ⊢
        exact ⟨⟨trivial, ih.1⟩, ih.2⟩
      · have hge := Lib.index_ge r [32]
        obtain ⟨j, hj⟩ : ∃ j : Nat, Lib.index r [32] = j := ⟨(Lib.index r [32]).toNat, by omega⟩
        have hc := Lib.count_hit (sub := [32]) (by simp) hj
        rw [Nat.add_comm] at hc
        have hb : (Lib.index r [32] == -1) = false := by rw [beq_eq_false_iff_ne]; exact hm
        rw [hb] at hix
        simp only [Bool.false_eq_true, if_false] at hix
        have hb2 : (Lib.index (c :: r) [32] == -1) = false := by rw [beq_eq_false_iff_ne, hix]; omega
        rw [hc] at ih ⊢
        simp only [Lib.splitK, hb, hb2, Bool.false_eq_true, if_false, List.nil_append, List.cons.injEq] at ih ⊢
        rw [hix, hj] at *
        obtain ⟨i1, i2⟩ := ih
        have e1 : ((j : Int) + 1).toNat = j + 1 := by omega
        have e2 : (j : Int).toNat = j := by omega
        rw [e1]
        rw [e2] at i1 i2
        refine ⟨?_, ?_⟩
        · rw [Nat.add_zero] at i1 ⊢
          rw [List.take_succ_cons, i1]
        · rw [← i2]
          rfl
/-- a digit's number -/
def digW : List UInt8 → Option Int
  | [c] => if 48 ≤ c.toNat ∧ c.toNat ≤ 57 then some ((c.toNat : Int) - 48) else none
  | _ => none
def digs : List (List UInt8) → Option (List Int)
  | [] => some []
  | w :: ws => (digW w).bind fun d => (digs ws).bind fun l => some (d :: l)
theorem digW_of (n : Nat) (h : n < 10) : digW (Lib.decDigits n) = some (n : Int) := by
  rw [Lib.decDigits, dif_pos h]
  have e : (UInt8.ofNat (48 + n)).toNat = 48 + n := by simp; omega
  simp only [digW]
  rw [e, if_pos (by omega)]
  congr 1
  omega
theorem digW_is (w : List UInt8) (d : Int) (h : digW w = some d) : 0 ≤ d ∧ d < 10 ∧ w = Lib.decDigits d.toNat := by
  match w, h with
  | [c], h =>
    simp only [digW] at h
    split at h
    · rename_i hc
      injection h with h
      have hd : d.toNat = c.toNat - 48 := by omega
      have hlt : c.toNat - 48 < 10 := by omega
      refine ⟨by omega, by omega, ?_⟩
      rw [hd, Lib.decDigits, dif_pos hlt]
      congr 1
      apply UInt8.toNat_inj.1
      simp
      omega
    · cases h
theorem digs_is : ∀ (ws : List (List UInt8)) (l : List Int), digs ws = some l → (∀ x ∈ l, 0 ≤ x ∧ x < 10) ∧ ws = l.map fun x => Lib.decDigits x.toNat
  | [], l, h => by
    simp only [digs, Option.some.injEq] at h
    subst h
    exact ⟨(fun x hx => by cases hx), rfl⟩
  | w :: ws, l, h => by
    simp only [digs] at h
    obtain ⟨d, hd, h⟩ := Option.bind_eq_some_iff.mp h
    obtain ⟨l', hl, h⟩ := Option.bind_eq_some_iff.mp h
    injection h with h
    subst h
    obtain ⟨h1, h2⟩ := digs_is ws l' hl
    obtain ⟨d0, d1, d2⟩ := digW_is w d hd
    refine ⟨fun x hx => ?_, by rw [List.map_cons, ← h2, ← d2]⟩
    rcases List.mem_cons.mp hx with hx | hx
    · omega
    · exact h1 x hx
theorem digs_of : ∀ (ws : List (List UInt8)) (f : List UInt8 → Int), (∀ w ∈ ws, 0 ≤ f w ∧ f w < 10 ∧ w = Lib.decDigits (f w).toNat) → digs ws = some (ws.map f)
  | [], _, _ => rfl
  | w :: ws, f, h => by
    obtain ⟨a, b, c⟩ := h w List.mem_cons_self
    have h1 : digW w = some (f w) := by
      have := digW_of (f w).toNat (by omega)
      rw [← c] at this
      rw [this]
      congr 1
      omega
    simp only [digs, h1, Option.bind_some, digs_of ws f (fun y hy => h y (List.mem_cons_of_mem _ hy)), List.map_cons]
/-! what the reference reads -/
def readD : Int → List UInt8 → Int
  | n, [] => n
  | n, c :: r => if (c.toNat : Int) < 48 ∨ 57 < (c.toNat : Int) then -1 else readD (10 * n + ((c.toNat : Int) - 48)) r
theorem readD_ge : ∀ (r : List UInt8) (n : Int), 0 ≤ n → readD n r = -1 ∨ n ≤ readD n r
  | [], n, _ => .inr (Int.le_refl _)
  | c :: r, n, h => by
    simp only [readD]
    split
    · exact .inl rfl
    · rcases readD_ge r (10 * n + ((c.toNat : Int) - 48)) (by omega) with h1 | h1
      · exact .inl h1
      · exact .inr (by omega)
def rdW (w : List UInt8) : Int := match w with
  | [] => -1
  | c :: r => if 6 < (c :: r).length ∨ (c = 48 ∧ r ≠ []) then -1 else readD 0 (c :: r)
theorem rdW_dig (n : Nat) (h : n < 10) : rdW (Lib.decDigits n) = (n : Int) := by
  rw [Lib.decDigits, dif_pos h]
  have e : (UInt8.ofNat (48 + n)).toNat = 48 + n := by simp; omega
  simp only [rdW, readD]
  rw [if_neg (by simp), e, if_neg (by omega)]
  omega
theorem rdW_small (w : List UInt8) (h0 : 0 ≤ rdW w) (h1 : rdW w < 10) : w = Lib.decDigits (rdW w).toNat := by
  match w, h0, h1 with
  | [], h0, _ => simp [rdW] at h0
  | c :: r, h0, h1 =>
    simp only [rdW] at h0 h1 ⊢
    split at h0
    · omega
    · rename_i hc
      rw [if_neg hc] at h1 ⊢
      simp only [readD] at h0 h1 ⊢
      split at h0
      · omega
      · rename_i hd
        rw [if_neg hd] at h1 ⊢
        cases r with
        | nil =>
          simp only [readD] at h0 h1 ⊢
          have hd2 : (10 * 0 + ((c.toNat : Int) - 48)).toNat = c.toNat - 48 := by omega
          have hlt : c.toNat - 48 < 10 := by omega
          rw [hd2, Lib.decDigits, dif_pos hlt]
          congr 1
          apply UInt8.toNat_inj.1
          simp
          omega
        | cons b r =>
          exfalso
          have hne : c.toNat ≠ 48 := fun e => hc (.inr ⟨UInt8.toNat_inj.1 (by rw [e]; rfl), by simp⟩)
          simp only [readD] at h0 h1
          split at h0
          · omega
          · rename_i hb
            rw [if_neg hb] at h1
            rcases readD_ge r (10 * (10 * 0 + ((c.toNat : Int) - 48)) + ((b.toNat : Int) - 48)) (by omega) with g | g
            · omega
            · omega
/-! what the program reads -/
theorem itoa_dig (v : Int) (h0 : 0 ≤ v) : Lib.itoa v = Lib.decDigits v.toNat := by
  unfold Lib.itoa
  rw [if_neg (by omega)]
theorem atoi_dig (n : Nat) (h : n < 10) : Lib.atoiAll (Lib.decDigits n) = .ok (n : Int) := by
  have key : ∀ x : Fin 10, Lib.atoiAll [UInt8.ofNat (48 + x.val)] = .ok ((x.val : Nat) : Int) := by decide +kernel
  rw [Lib.decDigits, dif_pos h]
  exact key ⟨n, h⟩

end Go.Proofs.YtjnchdccefdjmaaGreatDoor.Math
