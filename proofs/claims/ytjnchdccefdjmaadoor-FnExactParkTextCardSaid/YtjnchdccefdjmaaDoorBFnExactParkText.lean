/- Proved here: what the Lean functions printed for the Go functions of law FnExactParkText compute, in words of lists and whole numbers, for lists shorter than 2^62. -/
import Derived.Test.YtjnchdccefdjmaaDoorQFnExactParkTextx
import Derived.Test.YtjnchdccefdjmaaDoorMDrive
import Derived.Test.YtjnchdccefdjmaaDoorMCrit
import Derived.Test.YtjnchdccefdjmaaDoorMLesser
namespace Go.Proofs.YtjnchdccefdjmaaDoor.QFnExactParkText
open Go.RowKit Go.Proofs.YtjnchdccefdjmaaDoorW.PrintWords Go.Proofs.YtjnchdccefdjmaaDoorW.PrintLast Go.Proofs.YtjnchdccefdjmaaDoor.Math
set_option linter.unusedVariables false
set_option linter.unusedSimpArgs false

theorem ev_pos {α : Type} {c : Prop} [Decidable c] {g f : Nat → Option α} {r : α} (h : c) (k : Ev g r) : Ev (fun n => if c then g n else f n) r := by
  obtain ⟨K, hK⟩ := k
  exact ⟨K, fun n hn => by simp only [if_pos h]; exact hK n hn⟩
theorem ev_neg {α : Type} {c : Prop} [Decidable c] {g f : Nat → Option α} {r : α} (h : ¬ c) (k : Ev f r) : Ev (fun n => if c then g n else f n) r := by
  obtain ⟨K, hK⟩ := k
  exact ⟨K, fun n hn => by simp only [if_neg h]; exact hK n hn⟩
theorem ev_eq {α : Type} {g : Option α} {r : α} (h : g = some r) : Ev (fun _ => g) r := ⟨0, fun _ _ => h⟩
theorem ev_val {α : Type} {g : Nat → Option α} {r q : α} (h : Ev g r) (e : r = q) : Ev g q := e ▸ h
theorem wrap_nat (i : Nat) (h : i < 4611686018427387904) : wrap64 ((i : Int) + 1) = ((i + 1 : Nat) : Int) := by
  unfold wrap64
  omega
theorem wrap_id (x : Int) (h : -9223372036854775808 ≤ x) (h' : x ≤ 9223372036854775807) : wrap64 x = x := by
  unfold wrap64
  omega
theorem rd_nat (l : List Int) (i : Nat) (h : i < l.length) : rd l (i : Int) = l[i] := by
  simp [rd, List.getD_eq_getElem?_getD, h]
theorem rd_int (l : List Int) (x : Int) (h0 : 0 ≤ x) (h : x < l.length) : rd l x = l[x.toNat]'(by omega) := by
  have e : x = ((x.toNat : Nat) : Int) := by omega
  have h2 : x.toNat < l.length := by omega
  rw [show rd l x = rd l ((x.toNat : Nat) : Int) by rw [← e]]
  exact rd_nat l x.toNat h2
/-- m, m + 1, .., n numbers -/
def marks : Int → Nat → List Int
  | _, 0 => []
  | m, n + 1 => m :: marks (m + 1) n
theorem marks_len : ∀ (n : Nat) (m : Int), (marks m n).length = n
  | 0, _ => rfl
  | n + 1, m => by simp [marks, marks_len n]
theorem take_set_succ (y l : List Int) (i : Nat) (hi : i < l.length) (hy : y.length = l.length) (h : y.take i = l.take i) : (y.set i l[i]).take (i + 1) = l.take (i + 1) := by
  rw [List.take_succ_eq_append_getElem (by simp; omega), List.take_succ_eq_append_getElem hi, List.take_set_of_le (Nat.le_refl i), h, List.getElem_set_self]
/-- all numbers lie from lo to hi -/
def inAll (lo hi : Int) (l : List Int) : Bool := l.all fun x => decide (lo ≤ x) && decide (x ≤ hi)
theorem inAll_iff (lo hi : Int) (l : List Int) : inAll lo hi l = true ↔ ∀ x ∈ l, lo ≤ x ∧ x ≤ hi := by
  simp [inAll]

theorem laws_eqIntS.evl (a b : List Int) (hl : a.length < 4611686018427387904) (h : a.length = b.length) (d : Nat) : ∀ (i : Nat), i + d = a.length → Ev (fun k => laws_eqIntS.l0 k a b (i : Int)) (decide (a.drop i = b.drop i)) := by
  induction d with
  | zero =>
    intro i hi
    refine Ev.step (fun k => laws_eqIntS.l0.eq_2 ..) ?_
    refine ev_neg (by omega) ?_
    refine ev_val (Ev.now _) ?_
    rw [List.drop_of_length_le (by omega), List.drop_of_length_le (by omega)]
    rfl
  | succ d ih =>
    intro i hi
    refine Ev.step (fun k => laws_eqIntS.l0.eq_2 ..) ?_
    refine ev_pos (by omega) (ev_pos (by omega) (ev_pos (by omega) ?_))
    rw [wrap_nat i (by omega), rd_nat a i (by omega), rd_nat b i (by omega)]
    rw [List.drop_eq_getElem_cons (l := a) (by omega), List.drop_eq_getElem_cons (l := b) (by omega)]
    by_cases e : a[i] = b[i]'(by omega)
    · refine ev_pos e (ev_val (ih (i + 1) (by omega)) ?_)
      simp only [List.cons.injEq, e, true_and]
    · refine ev_neg e (ev_val (Ev.now _) ?_)
      simp only [List.cons.injEq, e, false_and, decide_false]
theorem laws_eqIntS.ev (a b : List Int) (hl : a.length < 4611686018427387904) : Ev (fun k => laws_eqIntS.f k a b) (decide (a = b)) := by
  simp only [laws_eqIntS.f]
  by_cases h : a.length = b.length
  · refine ev_pos (by omega) (ev_val (laws_eqIntS.evl a b hl h a.length 0 (by omega)) ?_)
    simp
  · refine ev_neg (by omega) (ev_val (Ev.now _) ?_)
    exact (decide_eq_false (fun e => h (by rw [e]))).symm
theorem laws_eqIntS.ev_self (a : List Int) (hl : a.length < 4611686018427387904) : Ev (fun k => laws_eqIntS.f k a a) true := ev_val (laws_eqIntS.ev a a hl) (by simp)

theorem spec_l1In.is (x lo hi : Int) : spec_l1In.f x lo hi = some (decide (lo ≤ x) && decide (x ≤ hi)) := by
  unfold spec_l1In.f
  by_cases h : x ≥ lo
  · rw [if_pos h, decide_eq_true (show lo ≤ x from h), Bool.true_and]
  · rw [if_neg h, decide_eq_false (show ¬ lo ≤ x from h), Bool.false_and]

theorem spec_l1All.evl (lo hi : Int) (l : List Int) (hl : l.length < 4611686018427387904) (d : Nat) : ∀ (i : Nat), i + d = l.length → Ev (fun k => spec_l1All.l0 k lo hi l (l.length : Int) (i : Int)) (inAll lo hi (l.drop i)) := by
  induction d with
  | zero =>
    intro i hi0
    refine Ev.step (fun k => spec_l1All.l0.eq_2 ..) ?_
    refine ev_neg (by omega) ?_
    refine ev_val (Ev.now _) ?_
    rw [List.drop_of_length_le (by omega)]
    rfl
  | succ d ih =>
    intro i hi0
    refine Ev.step (fun k => spec_l1All.l0.eq_2 ..) ?_
    refine ev_pos (by omega) (ev_pos (by omega) (ev_pos (by omega) ?_))
    rw [wrap_nat i (by omega), rd_nat l i (by omega), List.drop_eq_getElem_cons (by omega), spec_l1In.is]
    refine Ev.bind (Ev.now _) ?_
    have u : inAll lo hi (l[i] :: l.drop (i + 1)) = ((decide (lo ≤ l[i]) && decide (l[i] ≤ hi)) && inAll lo hi (l.drop (i + 1))) := rfl
    rw [u]
    generalize (decide (lo ≤ l[i]) && decide (l[i] ≤ hi)) = b
    cases b with
    | true => exact ev_pos rfl (ih (i + 1) (by omega))
    | false => exact ev_neg (by decide) (Ev.now _)
theorem spec_l1All.ev (l : List Int) (lo hi : Int) (hl : l.length < 4611686018427387904) : Ev (fun k => spec_l1All.f k l lo hi) (inAll lo hi l) := by
  simp only [spec_l1All.f]
  exact spec_l1All.evl lo hi l hl l.length 0 (by omega)

theorem spec_l1Has.evl (x : Int) (l : List Int) (hl : l.length < 4611686018427387904) (d : Nat) : ∀ (i : Nat), i + d = l.length → Ev (fun k => spec_l1Has.l0 k x l (l.length : Int) (i : Int)) (decide (x ∈ l.drop i)) := by
  induction d with
  | zero =>
    intro i hi
    refine Ev.step (fun k => spec_l1Has.l0.eq_2 ..) ?_
    refine ev_neg (by omega) ?_
    refine ev_val (Ev.now _) ?_
    rw [List.drop_of_length_le (by omega)]
    simp
  | succ d ih =>
    intro i hi
    refine Ev.step (fun k => spec_l1Has.l0.eq_2 ..) ?_
    refine ev_pos (by omega) (ev_pos (by omega) (ev_pos (by omega) ?_))
    rw [wrap_nat i (by omega), rd_nat l i (by omega), List.drop_eq_getElem_cons (by omega)]
    by_cases e : l[i] = x
    · refine ev_pos e (ev_val (Ev.now _) ?_)
      simp [e]
    · refine ev_neg e (ev_val (ih (i + 1) (by omega)) ?_)
      simp only [List.mem_cons, show ¬ x = l[i] from fun h => e h.symm, false_or]
theorem spec_l1Has.ev (l : List Int) (x : Int) (hl : l.length < 4611686018427387904) : Ev (fun k => spec_l1Has.f k l x) (decide (x ∈ l)) := by
  simp only [spec_l1Has.f]
  exact spec_l1Has.evl x l hl l.length 0 (by omega)

theorem spec_paDrive.evl (p : Int) (hp : p ≤ 1048576) (l : List Int) (hl : l.length ≤ 1048576) (hx : ∀ x ∈ l, -1048576 ≤ x) (d : Nat) : ∀ (i : Nat) (out : List Int), i + d = l.length → out.length = i → Ev (fun k => spec_paDrive.l0 k p out l (l.length : Int) (i : Int)) (paD p out (l.drop i)) := by
  induction d with
  | zero =>
    intro i out hi ho
    refine Ev.step (fun k => spec_paDrive.l0.eq_2 ..) ?_
    refine ev_neg (by omega) ?_
    refine ev_val (Ev.now _) ?_
    rw [List.drop_of_length_le (by omega)]
    rfl
  | succ d ih =>
    intro i out hi ho
    refine Ev.step (fun k => spec_paDrive.l0.eq_2 ..) ?_
    refine ev_pos (by omega) (ev_pos (by omega) (ev_pos (by omega) ?_))
    rw [rd_nat l i (by omega), List.drop_eq_getElem_cons (by omega)]
    have hxi := hx l[i] (List.getElem_mem _)
    have inner : ∀ (m : Nat) (x : Int), (p - x).toNat = m → -1048576 ≤ x → Ev (fun k => spec_paDrive.l1 k p out x l (l.length : Int) (i : Int)) (paD p (out ++ [if land out p x < p then land out p x else -1]) (l.drop (i + 1))) := by
      intro m
      induction m with
      | zero =>
        intro x hm hx0
        refine Ev.step (fun k => spec_paDrive.l1.eq_2 ..) ?_
        refine ev_neg (by omega) (ev_pos (by omega) (ev_pos (by omega) ?_))
        rw [wrap_nat i (by omega), land_stop out p x (by omega), if_neg (by omega)]
        exact ih (i + 1) _ (by omega) (by simp; omega)
      | succ m ihm =>
        intro x hm hx0
        refine Ev.step (fun k => spec_paDrive.l1.eq_2 ..) ?_
        refine ev_pos (by omega) (Ev.bind (spec_l1Has.ev out x (by omega)) ?_)
        by_cases hh : x ∈ out
        · rw [decide_eq_true hh, land_go out p x (by omega) hh]
          refine ev_pos rfl ?_
          rw [wrap_id (x + 1) (by omega) (by omega)]
          exact ihm (x + 1) (by omega) (by omega)
        · rw [decide_eq_false hh, land_stop out p x (fun h => hh h.2), if_pos (by omega)]
          refine ev_neg (by decide) (ev_neg (by omega) (ev_pos (by omega) ?_))
          rw [wrap_nat i (by omega)]
          exact ih (i + 1) _ (by omega) (by simp; omega)
    exact inner _ l[i] rfl hxi
theorem spec_paDrive.ev (l : List Int) (p : Int) (hp : p ≤ 1048576) (hl : l.length ≤ 1048576) (hx : ∀ x ∈ l, -1048576 ≤ x) : Ev (fun k => spec_paDrive.f k l p) (paD p [] l) := by
  simp only [spec_paDrive.f]
  exact spec_paDrive.evl p hp l hl hx l.length 0 [] (by omega) rfl

theorem paD_length (p : Int) : ∀ (l out : List Int), (paD p out l).length = out.length + l.length
  | [], out => by simp [paD]
  | x :: l, out => by
    have := paD_length p l (out ++ [if land out p x < p then land out p x else -1])
    simp only [paD, this, List.length_append, List.length_cons, List.length_nil]
    omega

theorem spec_paAll.ev (l : List Int) (p : Int) (hp : p ≤ 1048576) (hl : l.length ≤ 1048576) (hx : ∀ x ∈ l, 0 ≤ x) : Ev (fun k => spec_paAll.f k l p) (allPark l p) := by
  simp only [spec_paAll.f]
  refine Ev.bind (spec_paDrive.ev l p hp hl (fun x h => by have := hx x h; omega)) (Ev.bind (spec_l1Has.ev _ _ (by rw [paD_length]; simp; omega)) ?_)
  refine ev_val (Ev.now _) ?_
  rw [allPark_paD l p hx]
  simp

theorem isPk_iff (l : List Int) : isPk l = true ↔ l.length ≤ 8 ∧ (∀ x ∈ l, 0 ≤ x ∧ x < l.length) ∧ allPark l l.length = true := by
  simp only [isPk, Bool.and_eq_true, decide_eq_true_eq, List.all_eq_true]
  constructor
  · rintro ⟨⟨h1, h2⟩, h3⟩
    exact ⟨h1, fun x hx => by have := h2 x hx; omega, h3⟩
  · rintro ⟨h1, h2, h3⟩
    exact ⟨⟨h1, fun x hx => by have := h2 x hx; omega⟩, h3⟩
theorem spec_paParking.ev (l : List Int) (hl : l.length ≤ 1048576) : Ev (fun k => spec_paParking.f k l) (isPk l) := by
  simp only [spec_paParking.f]
  unfold isPk
  by_cases h8 : l.length ≤ 8
  · rw [decide_eq_true h8, wrap_id _ (by omega) (by omega)]
    refine ev_pos (by omega) (Ev.bind (spec_l1All.ev l 0 _ (by omega)) ?_)
    have u : inAll 0 ((l.length : Int) - 1) l = l.all fun x => decide (0 ≤ x) && decide (x ≤ (l.length : Int) - 1) := rfl
    rw [← u]
    cases e : inAll 0 ((l.length : Int) - 1) l with
    | true =>
      rw [inAll_iff] at e
      exact ev_pos rfl (Ev.bind (spec_paAll.ev l _ (by omega) hl (fun x hx => (e x hx).1)) (Ev.now _))
    | false => exact ev_neg (by decide) (Ev.now _)
  · rw [decide_eq_false h8]
    exact ev_neg (by omega) (Ev.now _)

/-- a text of bytes -/
def bs (l : List UInt8) : ByteArray := ⟨l.toArray⟩
theorem bs_app (a b : List UInt8) : bs a ++ bs b = bs (a ++ b) := by
  apply ByteArray.ext
  rw [ByteArray.data_append]
  simp [bs]
theorem bs_size (a : List UInt8) : (bs a).size = a.length := by
  show a.toArray.size = a.length
  simp
theorem bs_list (s : ByteArray) : bs s.data.toList = s := by
  apply ByteArray.ext
  simp [bs]
theorem dig_one (n : Nat) (h : n < 10) : Lib.decDigits n = [UInt8.ofNat (48 + n)] := by
  rw [Lib.decDigits, dif_pos h]

theorem spec_l1Num.fin : ∀ x : Fin 10, strOfNums [(wrap64 (48 + ((x.val : Nat) : Int))) % 256] = bs [UInt8.ofNat (48 + x.val)] := by decide +kernel
theorem spec_l1Num.ev (x : Int) (h0 : 0 ≤ x) (h1 : x < 10) : Ev (fun k => spec_l1Num.f k x) (bs (Lib.decDigits x.toNat)) := by
  obtain ⟨n, rfl⟩ : ∃ n : Nat, x = (n : Int) := ⟨x.toNat, by omega⟩
  have hn : n < 10 := by omega
  refine Ev.step (fun k => spec_l1Num.f.eq_2 ..) (ev_pos h1 (ev_val (Ev.now _) ?_))
  rw [Int.toNat_natCast, dig_one n hn]
  exact spec_l1Num.fin ⟨n, hn⟩

/-- numbers in decimal with a blank ahead of each -/
def tailL (l : List Int) : List UInt8 := Lib.joinTail [32] (l.map fun x => Lib.decDigits x.toNat)
theorem tailL_cons (x : Int) (l : List Int) : tailL (x :: l) = (32 :: Lib.decDigits x.toNat) ++ tailL l := by
  simp [tailL, Lib.joinTail]
/-- numbers in decimal with blanks between them -/
def textL : List Int → List UInt8
  | [] => []
  | x :: l => Lib.decDigits x.toNat ++ tailL l
theorem tailL_len : ∀ (l : List Int), (∀ x ∈ l, 0 ≤ x ∧ x < 10) → (tailL l).length = 2 * l.length
  | [], _ => by simp [tailL, Lib.joinTail]
  | x :: l, h => by
    have h1 := h x List.mem_cons_self
    rw [tailL_cons, List.length_append, tailL_len l (fun y hy => h y (List.mem_cons_of_mem _ hy)), dig_one x.toNat (by omega)]
    simp
    omega
theorem textL_len (l : List Int) (h : ∀ x ∈ l, 0 ≤ x ∧ x < 10) : (textL l).length ≤ 2 * l.length := by
  cases l with
  | nil => simp [textL]
  | cons x l =>
    have h1 := h x List.mem_cons_self
    simp only [textL]
    rw [List.length_append, tailL_len l (fun y hy => h y (List.mem_cons_of_mem _ hy)), dig_one x.toNat (by omega)]
    simp
    omega

theorem spec_paText.evl (l : List Int) (hl : l.length ≤ 1048576) (hx : ∀ x ∈ l, 0 ≤ x ∧ x < 10) (d : Nat) : ∀ (i : Nat) (acc : List UInt8), 0 < i → i + d = l.length → acc.length + 2 * d ≤ 4194304 → Ev (fun k => spec_paText.l0 k (bs acc) l (l.length : Int) (i : Int)) (bs (acc ++ tailL (l.drop i))) := by
  induction d with
  | zero =>
    intro i acc h0 hi hb
    refine Ev.step (fun k => spec_paText.l0.eq_2 ..) (ev_neg (by omega) (ev_val (Ev.now _) ?_))
    rw [List.drop_of_length_le (by omega)]
    simp [tailL, Lib.joinTail]
  | succ d ih =>
    intro i acc h0 hi hb
    have hil : i < l.length := by omega
    have hxi := hx l[i] (List.getElem_mem hil)
    have hd := dig_one l[i].toNat (by omega)
    have N := spec_l1Num.ev l[i] hxi.1 hxi.2
    have s1 := bs_size acc
    refine Ev.step (fun k => spec_paText.l0.eq_2 ..) (ev_pos (by omega) (ev_pos (by omega) (ev_pos (by omega) (ev_pos (by omega) (ev_pos (by omega) ?_)))))
    rw [rd_nat l i hil]
    have e1 : bs acc ++ (⟨#[32]⟩ : ByteArray) = bs (acc ++ [32]) := bs_app acc [32]
    rw [e1]
    have s2 := bs_size (acc ++ [32])
    have s3 := bs_size (Lib.decDigits l[i].toNat)
    rw [List.length_append, List.length_singleton] at s2
    rw [hd, List.length_singleton] at s3
    refine Ev.bind N (ev_pos (by rw [hd]; omega) ?_)
    rw [bs_app, wrap_nat i (by omega)]
    refine ev_val (ih (i + 1) _ (by omega) (by omega) ?_) ?_
    · rw [hd]
      simp only [List.length_append, List.length_singleton]
      omega
    · rw [List.drop_eq_getElem_cons hil, tailL_cons]
      simp
theorem spec_paText.ev (l : List Int) (hl : l.length ≤ 1048576) (hx : ∀ x ∈ l, 0 ≤ x ∧ x < 10) : Ev (fun k => spec_paText.f k l) (bs (textL l)) := by
  simp only [spec_paText.f]
  cases l with
  | nil => exact Ev.step (fun k => spec_paText.l0.eq_2 ..) (ev_neg (by simp) (ev_val (Ev.now _) rfl))
  | cons x r =>
    have hx0 := hx x List.mem_cons_self
    have hd := dig_one x.toNat (by omega)
    have N := spec_l1Num.ev x hx0.1 hx0.2
    have hlen : (x :: r).length = r.length + 1 := rfl
    have s3 := bs_size (Lib.decDigits x.toNat)
    rw [hd, List.length_singleton] at s3
    have e0 : rd (x :: r) 0 = x := rfl
    refine Ev.step (fun k => spec_paText.l0.eq_2 ..) (ev_pos (by omega) (ev_pos (by omega) (ev_pos (by omega) (ev_neg (by omega) ?_))))
    rw [e0]
    refine Ev.bind N (ev_pos ?_ ?_)
    · rw [hd]
      have : (⟨#[]⟩ : ByteArray).size = 0 := rfl
      omega
    · have e1 : (⟨#[]⟩ : ByteArray) ++ bs (Lib.decDigits x.toNat) = bs (Lib.decDigits x.toNat) := bs_app [] _
      rw [e1, show wrap64 (0 + 1) = ((1 : Nat) : Int) by decide +kernel]
      refine ev_val (spec_paText.evl (x :: r) hl hx r.length 1 _ (by omega) (by rw [hlen]; omega) ?_) ?_
      · rw [hd, List.length_singleton]
        omega
      · simp [textL]

/-- what ParkText hands back -/
def ptR (l : List Int) : ByteArray × Bool := if isPk l = true then (bs (textL l), true) else ((⟨#[]⟩ : ByteArray), false)
theorem isPk_ten (l : List Int) (h : isPk l = true) : l.length ≤ 8 ∧ ∀ x ∈ l, 0 ≤ x ∧ x < 10 := by
  have h1 := (isPk_parts l).mp h
  exact ⟨h1.1, fun x hx => by have := h1.2.1 x hx; omega⟩

theorem spec_ParkText.ev (l : List Int) (hl : l.length ≤ 1048576) : Ev (fun k => spec_ParkText.f k l) (ptR l) := by
  simp only [spec_ParkText.f]
  refine Ev.bind (spec_paParking.ev l (by omega)) ?_
  unfold ptR
  by_cases e : isPk l = true
  · have h := isPk_ten l e
    exact ev_val (ev_pos e (Ev.bind (spec_paText.ev l (by omega) h.2) (Ev.now _))) (if_pos e).symm
  · exact ev_val (ev_neg e (Ev.now _)) (if_neg e).symm

theorem laws_toIntS.evl (l : List Int) (hl : l.length < 4611686018427387904) (d : Nat) : ∀ (i : Nat) (y : List Int), i + d = l.length → y.length = l.length → y.take i = l.take i → Ev (fun k => laws_toIntS.l0 k l y (i : Int)) l := by
  induction d with
  | zero =>
    intro i y hi hy ht
    refine Ev.step (fun k => laws_toIntS.l0.eq_2 ..) ?_
    refine ev_neg (by omega) ?_
    refine ev_val (Ev.now _) ?_
    rw [show i = l.length by omega] at ht
    rw [List.take_of_length_le (by omega), List.take_of_length_le (by omega)] at ht
    exact ht
  | succ d ih =>
    intro i y hi hy ht
    refine Ev.step (fun k => laws_toIntS.l0.eq_2 ..) ?_
    refine ev_pos (by omega) (ev_pos (by omega) (ev_pos (by omega) ?_))
    rw [wrap_nat i (by omega), rd_nat l i (by omega), Int.toNat_natCast]
    exact ih (i + 1) _ (by omega) (by simp; omega) (take_set_succ y l i (by omega) hy ht)
theorem laws_toIntS.ev (l : List Int) (hl : l.length ≤ 1048576) : Ev (fun k => laws_toIntS.f k l) l := by
  simp only [laws_toIntS.f]
  refine ev_pos (by omega) (ev_pos (by omega) ?_)
  exact laws_toIntS.evl l (by omega) l.length 0 _ (by omega) (by simp) (by simp)

theorem impl_between.is (x lo hi : Int) : impl_between.f x lo hi = some (decide (lo ≤ x) && decide (x ≤ hi)) := by
  unfold impl_between.f
  by_cases h : x ≥ lo
  · rw [if_pos h, decide_eq_true (show lo ≤ x from h), Bool.true_and]
  · rw [if_neg h, decide_eq_false (show ¬ lo ≤ x from h), Bool.false_and]

theorem impl_areBetween.is (l : List Int) (lo hi : Int) (hl : l.length ≤ 35184372088832) : impl_areBetween.f l lo hi = some (inAll lo hi l) := by
  unfold impl_areBetween.f
  rw [if_pos hl]
  congr 1
  unfold inAll out_b
  induction l with
  | nil => rfl
  | cons x l ih =>
    rw [List.any_cons, List.all_cons, ← ih (by simp at hl; omega)]
    cases (decide (lo ≤ x) && decide (x ≤ hi)) <;> simp

theorem impl_areCars.is (l : List Int) (hl : l.length ≤ 35184372088832) : impl_areCars.f l = some (decide (l.length ≤ 8) && inAll 0 99 l) := by
  unfold impl_areCars.f
  by_cases h8 : l.length ≤ 8
  · rw [decide_eq_true h8, if_pos (by omega), impl_areBetween.is l 0 99 hl]
    rfl
  · rw [decide_eq_false h8, if_neg (by omega)]
    rfl

def drvR (o : Option (List Int)) : List Int × Bool := match o with
  | some r => (r, true)
  | none => ([], false)
theorem drvR_snd (l : List Int) (p : Int) : (drvR (drv p [] l)).2 = allPark l p := by
  unfold drvR allPark
  cases drv p [] l <;> rfl

/-- the table t tells which places are in out -/
def Tk (p : Int) (out : List Int) (t : List Bool) : Prop := t.length = p.toNat ∧ ∀ j : Int, 0 ≤ j → j < p → (rdOf false t j = true ↔ j ∈ out)
theorem Tk_set (p : Int) (out : List Int) (t : List Bool) (h : Tk p out t) (x : Int) (h0 : 0 ≤ x) (h1 : x < p) : Tk p (out ++ [x]) (t.set x.toNat true) := by
  refine ⟨by rw [List.length_set]; exact h.1, fun j j0 j1 => ?_⟩
  have hl := h.1
  have hj := h.2 j j0 j1
  unfold rdOf at hj ⊢
  rw [List.getD_eq_getElem?_getD] at hj ⊢
  rw [List.getElem?_set]
  by_cases e : x.toNat = j.toNat
  · have e' : j = x := by omega
    subst e'
    rw [if_pos rfl, if_pos (by omega)]
    simp
  · rw [if_neg e]
    rw [hj]
    have e' : ¬ j = x := by omega
    simp [e']

theorem impl_drive.evl (p : Int) (hp : p ≤ 1048576) (l : List Int) (hl : l.length ≤ 1048576) (hx : ∀ x ∈ l, 0 ≤ x ∧ x ≤ 1048576) (d : Nat) : ∀ (i : Nat) (out : List Int) (t : List Bool), i + d = l.length → out.length = i → Tk p out t → Ev (fun k => impl_drive.l0 k p t out l (l.length : Int) (i : Int)) (drvR (drv p out (l.drop i))) := by
  induction d with
  | zero =>
    intro i out t hi ho ht
    refine Ev.step (fun k => impl_drive.l0.eq_2 ..) ?_
    refine ev_neg (by omega) ?_
    refine ev_val (Ev.now _) ?_
    rw [List.drop_of_length_le (by omega)]
    rfl
  | succ d ih =>
    intro i out t hi ho ht
    refine Ev.step (fun k => impl_drive.l0.eq_2 ..) ?_
    refine ev_pos (by omega) (ev_pos (by omega) (ev_pos (by omega) ?_))
    rw [rd_nat l i (by omega), List.drop_eq_getElem_cons (by omega)]
    have hxi := hx l[i] (List.getElem_mem _)
    have inner : ∀ (m : Nat) (x : Int), (p - x).toNat = m → 0 ≤ x → x ≤ 1048576 → Ev (fun k => impl_drive.l1 k p t out x l (l.length : Int) (i : Int)) (drvR (drv p out (x :: l.drop (i + 1)))) := by
      intro m
      induction m with
      | zero =>
        intro x hm hx0 hx1
        refine Ev.step (fun k => impl_drive.l1.eq_2 ..) ?_
        refine ev_neg (by omega) (ev_pos (by omega) ?_)
        refine ev_val (Ev.now _) ?_
        simp only [drv]
        rw [land_stop out p x (by omega), if_neg (by omega)]
        rfl
      | succ m ihm =>
        intro x hm hx0 hx1
        have hlen := ht.1
        refine Ev.step (fun k => impl_drive.l1.eq_2 ..) ?_
        refine ev_pos (by omega) (ev_pos (by omega) (ev_pos (by omega) ?_))
        by_cases hh : x ∈ out
        · refine ev_pos ((ht.2 x hx0 (by omega)).mpr hh) ?_
          rw [wrap_id (x + 1) (by omega) (by omega)]
          refine ev_val (ihm (x + 1) (by omega) (by omega) (by omega)) ?_
          simp only [drv]
          rw [land_go out p x (by omega) hh]
        · refine ev_neg (fun h => hh ((ht.2 x hx0 (by omega)).mp h)) (ev_neg (by omega) (ev_pos (by omega) ?_))
          rw [wrap_nat i (by omega)]
          refine ev_val (ih (i + 1) _ _ (by omega) (by simp; omega) (Tk_set p out t ht x hx0 (by omega))) ?_
          simp only [drv]
          rw [land_stop out p x (fun h => hh h.2), if_pos (by omega)]
    exact inner _ l[i] rfl hxi.1 hxi.2
theorem impl_drive.ev (l : List Int) (p : Int) (hp0 : 0 ≤ p) (hp : p ≤ 1048576) (hl : l.length ≤ 1048576) (hx : ∀ x ∈ l, 0 ≤ x ∧ x ≤ 1048576) : Ev (fun k => impl_drive.f k l p) (drvR (drv p [] l)) := by
  simp only [impl_drive.f]
  refine ev_pos hp0 (ev_pos (by omega) ?_)
  refine impl_drive.evl p hp l hl hx l.length 0 [] _ (by omega) rfl ⟨by simp, fun j j0 j1 => ?_⟩
  unfold rdOf
  rw [List.getD_eq_getElem?_getD, List.getElem?_replicate]
  split <;> simp

theorem isPk_of_cars (l : List Int) (h8 : l.length ≤ 8) (h0 : ∀ x ∈ l, 0 ≤ x) : isPk l = allPark l l.length := by
  cases e : allPark l l.length with
  | false => simp [isPk, e]
  | true =>
    unfold allPark at e
    obtain ⟨r, hr⟩ := Option.isSome_iff_exists.mp e
    have h := drv_lt l.length l [] r hr
    have e' : allPark l l.length = true := by unfold allPark; exact e
    simp only [isPk, e', Bool.and_true, Bool.and_eq_true, decide_eq_true_eq, List.all_eq_true]
    exact ⟨h8, fun x hx => ⟨h0 x hx, by have := h x hx; omega⟩⟩
theorem isPk_no_cars (l : List Int) (h : ¬ (decide (l.length ≤ 8) && inAll 0 99 l) = true) : isPk l = false := by
  cases e : isPk l with
  | false => rfl
  | true =>
    exfalso
    apply h
    simp only [isPk, Bool.and_eq_true, decide_eq_true_eq, List.all_eq_true] at e
    rw [Bool.and_eq_true, decide_eq_true_eq, inAll_iff]
    exact ⟨e.1.1, fun x hx => by have := e.1.2 x hx; omega⟩

theorem impl_isParking.ev (l : List Int) (hl : l.length ≤ 1048576) : Ev (fun k => impl_isParking.f k l) (isPk l) := by
  simp only [impl_isParking.f]
  refine Ev.bind (ev_eq (impl_areCars.is l (by omega))) ?_
  cases e : (decide (l.length ≤ 8) && inAll 0 99 l) with
  | true =>
    rw [Bool.and_eq_true, decide_eq_true_eq, inAll_iff] at e
    refine ev_pos rfl (Ev.bind (impl_drive.ev l _ (by omega) (by omega) hl (fun x hx => by have := e.2 x hx; omega)) ?_)
    refine ev_val (Ev.now _) ?_
    rw [drvR_snd]
    exact (isPk_of_cars l e.1 (fun x hx => (e.2 x hx).1)).symm
  | false =>
    refine ev_neg (by decide) (ev_val (Ev.now _) ?_)
    exact (isPk_no_cars l (by rw [e]; decide)).symm

theorem joinedL_is (l : List Int) : joinedL l [32] = textL l := by
  unfold joinedL joinedWs
  rw [List.map_map]
  cases l with
  | nil => rfl
  | cons x r =>
    rw [List.map_cons, Lib.join_cons]
    simp only [textL, tailL]
    rfl
theorem impl_joined.is (l : List Int) (hl : l.length ≤ 1048576) (hx : ∀ x ∈ l, 0 ≤ x ∧ x < 10) : impl_joined.f l (⟨#[32]⟩ : ByteArray) = some (bs (textL l)) := by
  have e : (⟨#[32]⟩ : ByteArray).data.toList = [32] := rfl
  have h1 := textL_len l hx
  unfold impl_joined.f
  rw [e, joinedL_is, if_pos]
  · rfl
  · simp only [Bool.and_eq_true, decide_eq_true_eq, List.all_eq_true]
    exact ⟨⟨hl, fun x h => by have := hx x h; omega⟩, by omega⟩

theorem impl_ParkText.ev (l : List Int) (hl : l.length ≤ 1048576) : Ev (fun k => impl_ParkText.f k l) (ptR l) := by
  simp only [impl_ParkText.f]
  refine Ev.bind (impl_isParking.ev l (by omega)) ?_
  unfold ptR
  by_cases e : isPk l = true
  · have h := isPk_ten l e
    exact ev_val (ev_pos e (Ev.bind (ev_eq (impl_joined.is l (by omega) h.2)) (Ev.now _))) (if_pos e).symm
  · exact ev_val (ev_neg e (Ev.now _)) (if_neg e).symm

end Go.Proofs.YtjnchdccefdjmaaDoor.QFnExactParkText
