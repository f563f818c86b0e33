/- Proved here: each Go function named below, when called, returns what the Lean function of its name computes, wherever that function answers. Text written by this session's program over the kit's print; law FnOutcomesCounted. -/
import Derived.Test.YtdiohjdfiambhaaQFnOutcomesCountedx0
import Derived.Test.YtdiohjdfiambhaaQFnOutcomesCountedx3
import Derived.Test.YtdiohjdfiambhaaQFnOutcomesCountedx4
namespace Go.Proofs.Ytdiohjdfiambhaa.QFnOutcomesCounted
open Go.RowKit Go.Proofs.YtdiohjdfiambhaaW.PrintWords Go.Proofs.YtdiohjdfiambhaaW.PrintLast Go.Proofs.YtdiohjdfiambhaaW.PrintMore
attribute [local go_sem] max2_int min2_int max_two min_two max_three min_three max_four min_four   -- for this text's walks alone
set_option linter.unusedVariables false
set_option linter.unusedSimpArgs false

set_option maxHeartbeats 8000000 in
set_option maxRecDepth 100000 in
theorem impl_AllWithOutcome_1.calls (A0 : Option Addr) (c0 B : Nat) (l0 : List Int) (u : Value) (out : List (List Int)) (P_ : Nat → Prop) (w0 w : World) (hB : Below w0.heap.size w0 w) (hr0 : Kd.C (Kd.int .i64) w A0 l0.length l0) (hc0 : l0.length ≤ c0) (hl : l0.length ≤ 8) (hlo : out.length ≤ 500) (hb0 : w0.heap.size ≤ B) (hbx : w.heap[B]? = some (.cells #[u] 47 (0, 0))) (ho : Kd.S (Kd.slice 3 (Kd.int .i64)) 24 w w0.heap.size P_ u out) (hPB : ∀ k, P_ k → k ≠ B) :
  Calls Try.prog 144 #[.slice A0 l0.length c0, .pointer (some ⟨B, 0, none⟩)] w fun e w' => e = .returned (.tuple #[]) ∧ ∃ u' : Value, w'.heap[B]? = some (.cells #[u'] 47 (0, 0)) ∧ Kd.S (Kd.slice 3 (Kd.int .i64)) 24 w' w0.heap.size (fun k => P_ k ∨ w.heap.size ≤ k) u' (out ++ [l0]) ∧ Below w0.heap.size w0 w' ∧ Kept w w' (fun k => P_ k ∨ k = B) := by
 have hcell := cell_of_one hbx
 have hsz := blk_lt hbx
 have HK := Aside0.mk (Kept.drew (Kept.refl w (fun k => P_ k ∨ k = B)))
 have HB := Aside0.mk (below_drew1 hB)
 have HR := Aside0.mk (Kd.C_drew hr0)
 have HC := Aside0.mk hc0
 have HBX := Aside0.mk (blk_drew hbx)
 have HS := Aside0.mk (Kd.S_drew ho)
 have HL := Aside0.mk hl
 have HLO := Aside0.mk hlo
 have HSZ := Aside0.mk hsz
 have HPB := Aside0.mk hPB
 have HB0 := Aside0.mk hb0
 have HCL := Aside0.mk (show slices_Clone_int_int.f l0 = some l0 by
  unfold slices_Clone_int_int.f
  rw [if_pos (by omega)])
 have HN := Aside0.mk (show w.drew.heap.size = w.heap.size from rfl)
 clear hB hr0 hc0 hl hlo hb0 hbx ho hPB hsz
 go_enter Try.func144, Try.ntmps144
 refine start_ (n := 6) (S := fun w' => w'.cell? ⟨B, 0, none⟩ = some u) (ds := [4, 5]) #[false, false, false, false, false, false] (by kernel_rfl) rfl rfl hcell (fun hHeld => ?_)
 clear hcell
 generalize w.drew = w1 at HK HB HR HBX HS HN hHeld ⊢
 refine take_ (i := 0) (N := some 3) (v := ?_) (a' := ?_) #[true, false, false, false, false, false] rfl rfl (by kernel_rfl) (fun _ _ _ h => h) (Or.inl ⟨by rfl, ?_⟩) hHeld ?_ ?_
 rotate_left
 ·intro w' s0
  go_simp
  with_reducible rfl
 rotate_left
 ·simp only [Act.put, List.setIfInBounds_toArray, List.set_cons_zero, List.set_cons_succ, i64_w, i32_w]
  rfl
 refine pure_ (i := 1) (N := some 4) (v := ?_) (a' := ?_) #[true, true, false, false, false, false] rfl rfl (by kernel_rfl) (fun _ _ _ h => h) (Or.inl ⟨by rfl, ?_⟩) ?_ ?_
 rotate_left
 ·intro w'
  go_simp
  with_reducible rfl
 rotate_left
 ·simp only [Act.put, List.setIfInBounds_toArray, List.set_cons_zero, List.set_cons_succ, i64_w, i32_w]
  rfl
 refine one_ (i := 2) (N := some 5) #[true, true, true, false, false, false] rfl rfl (by kernel_rfl) (by decide) (fun K hK => ?_)
 refine goes_ Try.func142 (by kernel_rfl) rfl #[.slice A0 l0.length c0] (by rfl) rfl rfl (by (try simp only [List.map_toArray, List.map_cons, List.map_nil]); first | done | rfl) ?_
 with_reducible refine (slices_Clone_int_int.calls A0 c0 l0 l0 _ HR.out HC.out HCL.out).mono ?_
 rintro e w2 ⟨v5, rfl, ho5, hb5⟩
 obtain ⟨A5, c5, rfl⟩ := Kd.R_slice ho5
 refine ⟨_, rfl, ?_⟩
 have hH2 : w2.cell? ⟨B, 0, none⟩ = some u := (hb5.cell (by show B < w1.heap.size; rw [HN.out]; exact HSZ.out)).trans hHeld
 refine hK.out _ _ hH2 (fun hHeld => ?_)
 clear hK K hH2
 refine norm_ (a' := ?_) ?_ ?_
 rotate_left
 ·show Act.put _ (some 5) _ = _
  simp only [Act.put, List.setIfInBounds_toArray, List.set_cons_zero, List.set_cons_succ, i64_w, i32_w]
  rfl
 have HR5 := Aside0.mk (Kd.R_bound ho5)
 have HB2 := Aside0.mk (below_step HB.out hb5)
 have HK2 := Aside0.mk (HK.out.below hb5)
 have HBX2 := Aside0.mk (blk_below HBX.out hb5)
 have HU := Aside0.mk (show ∀ k, u.ownBlock = some k → k < w1.heap.size ∧ P_ k from fun k hk => by
  obtain ⟨inner, hown⟩ := Kd.S_own HS.out
  exact ⟨own_lt hown k hk, (Kd.S_R HS.out).1 k hk⟩)
 have HS2 := Aside0.mk (Kd.S_below (Kd.S_bound HS.out) hb5)
 have HSZ2 := Aside0.mk (show w1.heap.size ≤ w2.heap.size from hb5.size)
 have HWB := Aside0.mk (show w0.heap.size ≤ w1.heap.size from below_size HB.out)
 clear hb5 ho5 HR HB HK HBX HS
 refine one_ (i := 3) (N := some 6) #[true, true, true, true, false, false] rfl rfl (by kernel_rfl) (by decide) (fun K hK => ?_)
 refine value_ (w1 := ?_) (v := ?_) (by rfl) rfl ?_ ?_
 rotate_left 2
 ·go_simp
  constructor
  ·rfl
  ·rfl
 refine hK.out _ _ ?_ (fun hHeld => ?_)
 ·have hlt2 := blk_lt HBX2.out
  exact ((below_alloc (Below.refl _ _) _).cell (show (⟨B, 0, none⟩ : Addr).block < w2.heap.size from hlt2)).trans hHeld
 clear hK K
 refine norm_ (a' := ?_) ?_ ?_
 rotate_left
 ·show Act.put _ (some 6) _ = _
  simp only [Act.put, List.setIfInBounds_toArray, List.set_cons_zero, List.set_cons_succ, i64_w, i32_w]
  rfl
 clear hHeld
 refine last_ (i := 4) (N := some 7) #[true, true, true, true, true, false] rfl rfl (by kernel_rfl) (by decide) (fun K hK => ?_)
 refine Kd.S_append_step (Kd.slice 3 (Kd.int .i64)) (w0 := w0) w0.heap.size (by rfl) (.tmp 3) (.tmp 6) 47 24 (.slice none 0 0) 24 rfl Try.underlying47 info24 rfl (by decide) (by omega) u out l0 [.slice A5 l0.length c5] (fun k => P_ k ∨ w.heap.size ≤ k) (fun k => w1.heap.size ≤ k) rfl rfl ?aP ?aK ?aF ?aO ?aB ?aS ?aL ?_
 case aP => exact Kd.M_row (Kd.R_lower (Kd.R_mono HR5.out (fun k hk => hk.2.1)) HWB.out)
 case aK => exact fun k hk => ⟨.inr (by rw [← HN.out]; exact hk), fun e => by have := (HU.out k e.symm).1; omega⟩
 case aF => exact fun k hk => .inr (by have := HSZ2.out; rw [← HN.out]; omega)
 case aO => exact Kd.S_mono HS2.out (fun k hk => ⟨.inl hk.1, by have := hk.2.2.1; omega⟩)
 case aB => exact HB2.out
 case aS => exact below_size HB2.out
 case aL => have := HLO.out; omega
 intro v7 w3 ho7 hb7 hg7 hat7
 obtain ⟨A7, c7, rfl⟩ := Kd.S_slice ho7
 rw [show (out ++ [l0]).length = out.length + 1 from by simp] at ho7 ⊢
 have hBu : some B ≠ u.ownBlock := fun e => HPB.out B (HU.out B e.symm).2 rfl
 have HBX3 := Aside0.mk (blk_grown HBX2.out hg7 hBu)
 have HK3 := Aside0.mk (HK2.out.of_grown hg7 (fun k hk => .inl (.inl (HU.out k hk).2)))
 have HS3 := Aside0.mk ho7
 have HB3 := Aside0.mk hb7
 clear ho7 hb7 hg7 hat7 hBu
 refine hK.out _ _ ?_
 clear hK K
 refine norm_ (a' := ?_) ?_ ?_
 rotate_left
 ·show Act.put _ (some 7) _ = _
  simp only [Act.put, List.setIfInBounds_toArray, List.set_cons_zero, List.set_cons_succ, i64_w, i32_w]
  rfl
 have hc3 := cell_of_one HBX3.out
 have hf3 := free_of_one HBX3.out
 refine last_ (i := 5) (N := none) #[true, true, true, true, true, true] rfl rfl (by kernel_rfl) (by decide) (fun K hK => ?_)
 refine skip_ (w1 := ?_) (by rfl) rfl ?_ ?_
 rotate_left
 ·go_simp
  rfl
 refine hK.out _ _ ?_
 clear hK K hc3 hf3
 refine done_ (by kernel_rfl) ?_
 go_end0
 exact ⟨rfl, _, blk_put HBX3.out 0 _ rfl, Kd.S_far HS3.out (p := ⟨B, 0, none⟩) (fun k hk e => hk.elim (fun h => HPB.out k h e) (fun h => by have := HSZ.out; have e2 : k = B := e; omega)) _, HB3.out.setCell HB0.out _, HK3.out.setCell (.inl (.inr rfl)) _⟩

theorem wrapS_all (i : Int) (h : 0 ≤ i) (h1 : i < 1000) : wrap64 (i - 1) = i - 1 := by
 unfold wrap64
 omega
theorem wrapT_all (i : Int) (h : 0 ≤ i) (h1 : i < 1000) : wrap64 (i + 1) = i + 1 := by
 unfold wrap64
 omega
theorem rdI_all (l : List Int) (i : Int) (h0 : 0 ≤ i) (h : i.toNat < l.length) : rd l i = l[i.toNat] := by
 simp [rd, List.getD_eq_getElem?_getD, h]
/-- a place back: the high ones behind it are low again -/
theorem mixed_back (cur low : List Int) (i : Nat) (hi : i < cur.length) (hl : cur.length = low.length) : (cur.take (i + 1) ++ low.drop (i + 1)).set i (low[i]'(by omega)) = cur.take i ++ low.drop i := by
 rw [List.set_append_left _ _ (by simp; omega), List.take_succ_eq_append_getElem hi, List.set_append_right _ _ (by simp; omega)]
 rw [show i - (cur.take i).length = 0 by simp; omega, List.drop_eq_getElem_cons (l := low) (i := i) (by omega)]
 simp
theorem mixed_next (cur low : List Int) (i : Nat) (hi : i < cur.length) (x : Int) : (cur.take (i + 1) ++ low.drop (i + 1)).set i x = cur.take i ++ x :: low.drop (i + 1) := by
 rw [List.set_append_left _ _ (by simp; omega), List.take_succ_eq_append_getElem hi, List.set_append_right _ _ (by simp; omega)]
 rw [show i - (cur.take i).length = 0 by simp; omega]
 simp
theorem mixed_at (cur low : List Int) (i : Nat) (hi : i < cur.length) (h2 : i < (cur.take (i + 1) ++ low.drop (i + 1)).length) : (cur.take (i + 1) ++ low.drop (i + 1))[i] = cur[i] := by
 rw [List.getElem_append_left (by simp; omega), List.getElem_take]
theorem mixed_len (cur low : List Int) (i : Nat) (hl : cur.length = low.length) : (cur.take i ++ low.drop i).length = cur.length := by
 simp
 omega
theorem ptLe_next (a b c : List Int) (i : Nat) (hi : i < b.length) (hc : i < c.length) (h1 : Math.ptLe a b) (h2 : Math.ptLe b c) (hlt : b[i] < c[i]) (hac : Math.ptLe a c) : Math.ptLe a (b.take i ++ (b[i] + 1) :: a.drop (i + 1)) ∧ Math.ptLe (b.take i ++ (b[i] + 1) :: a.drop (i + 1)) c := by
 have e1 := Math.ptLe_len _ _ h1
 have e2 := Math.ptLe_len _ _ h2
 have hlen : (b.take i ++ (b[i] + 1) :: a.drop (i + 1)).length = b.length := by
  simp
  omega
 have at_ : ∀ j (h : j < (b.take i ++ (b[i] + 1) :: a.drop (i + 1)).length), (b.take i ++ (b[i] + 1) :: a.drop (i + 1))[j] = if h1 : j < i then b[j]'(by omega) else if j = i then b[i] + 1 else a[j]'(by omega) := by
  intro j hj
  by_cases hji : j < i
  ·rw [dif_pos hji, List.getElem_append_left (by simp; omega), List.getElem_take]
  ·rw [dif_neg hji, List.getElem_append_right (by simp; omega)]
   by_cases he : j = i
   ·subst he
    rw [if_pos rfl]
    simp [show j - min j b.length = 0 by omega]
   ·rw [if_neg he]
    have : j - (b.take i).length = (j - i - 1) + 1 := by simp; omega
    simp only [this, List.getElem_cons_succ, List.getElem_drop]
    congr 1
    omega
 refine ⟨Math.ptLe_of_get _ _ (by omega) (fun j ha hb => ?_), Math.ptLe_of_get _ _ (by omega) (fun j ha hb => ?_)⟩
 ·rw [at_ j hb]
  have g1 := Math.ptLe_get _ _ h1
  split
  ·exact g1 j ha (by omega)
  ·split
   ·rename_i e
    subst e
    have := g1 j ha hi
    omega
   ·omega
 ·rw [at_ j ha]
  have g2 := Math.ptLe_get _ _ h2
  have g3 := Math.ptLe_get _ _ hac
  split
  ·exact g2 j (by omega) hb
  ·split
   ·rename_i e
    subst e
    omega
   ·exact g3 j (by omega) hb
set_option maxHeartbeats 16000000 in
set_option maxRecDepth 100000 in
theorem impl_all.calls (A0 A1 : Option Addr) (c0 c1 B Nz : Nat) (low high : List Int) (u : Value) (w0 w : World) (hB : Below w0.heap.size w0 w) (hb0 : w0.heap.size ≤ B) (hNz : Nz ≤ B)
  (hlow : Kd.R (Kd.int .i64) 3 w w0.heap.size (fun k => k < Nz) (.slice A0 low.length c0) low) (hhigh : Kd.C (Kd.int .i64) w0 A1 high.length high) (hc1 : high.length ≤ c1)
  (h8 : high.length ≤ 8) (hle : Math.ptLe low high) (hx0 : ∀ x ∈ low, 0 ≤ x) (hx1 : ∀ x ∈ high, x < 1000) (hn : (Math.boxes low high).length ≤ 500)
  (hbx : w.heap[B]? = some (.cells #[u] 47 (0, 0))) (hS : Kd.S (Kd.slice 3 (Kd.int .i64)) 24 w w0.heap.size (fun k => Nz ≤ k ∧ k ≠ B) u []) :
  Calls Try.prog 143 #[.slice A0 low.length c0, .slice A1 high.length c1, .func (.func 144) #[] #[.pointer (some ⟨B, 0, none⟩)]] w fun e w' => e = .returned (.tuple #[]) ∧ ∃ u' : Value, w'.heap[B]? = some (.cells #[u'] 47 (0, 0)) ∧ Kd.S (Kd.slice 3 (Kd.int .i64)) 24 w' w0.heap.size (fun k => k ≠ B) u' (Math.boxes low high) ∧ Below w0.heap.size w0 w' := by
 have hl : low.length = high.length := Math.ptLe_len _ _ hle
 have hBw := blk_lt hbx
 have HB := Aside0.mk hB
 have HB0 := Aside0.mk hb0
 have HNz := Aside0.mk hNz
 have HW := Aside0.mk hlow
 have HH := Aside0.mk hhigh
 have HC1 := Aside0.mk hc1
 have H8 := Aside0.mk h8
 have HLe := Aside0.mk hle
 have HX0 := Aside0.mk hx0
 have HX1 := Aside0.mk hx1
 have Hn := Aside0.mk hn
 have HBX := Aside0.mk hbx
 have HS := Aside0.mk (Kd.S_bound hS)
 have HBW := Aside0.mk hBw
 have HLl := Aside0.mk hl
 have HLw := Aside0.mk (Kd.R_reads' hlow)
 have HCL := Aside0.mk (show slices_Clone_int_int.f low = some low by
  unfold slices_Clone_int_int.f
  rw [if_pos (by omega)])
 have HL8 := Aside0.mk (show low.length ≤ 8 by omega)
 clear hB hb0 hNz hlow hhigh hc1 h8 hle hx0 hx1 hn hbx hS hBw hl
 go_enter Try.func143, Try.ntmps143
 go_wp2_with (go_at_call 142; refine (slices_Clone_int_int.calls A0 c0 low low _ HLw.out.2.2 HLw.out.2.1 HCL.out).mono ?_; rintro e w1 ⟨v6, rfl, ho6, hb6⟩; obtain ⟨A6, c6, rfl⟩ := Kd.R_slice ho6; have HL := Aside0.mk (Kd.R_mono (ok' := fun k => w.heap.size ≤ k ∧ k < w1.heap.size) (Kd.R_lower (Kd.R_bound ho6) (below_size HB.out)) (fun k hk => ⟨hk.2.1, hk.2.2.1⟩)); have HS1 := Aside0.mk (Kd.S_mono (ok' := fun k => (Nz ≤ k ∧ k ≠ B) ∧ ¬ (w.heap.size ≤ k ∧ k < w1.heap.size)) (Kd.S_below HS.out hb6) (fun k hk => ⟨hk.1, fun h => by have := hk.2.2.1; omega⟩)); have HW1 := Aside0.mk (Kd.R_below HW.out hb6); have HBX1 := Aside0.mk (blk_below HBX.out hb6); have HB1 := Aside0.mk (below_step HB.out hb6); have HSZ := Aside0.mk hb6.size; clear ho6 hb6 HS HW HBX HB)
 obtain ⟨N1, hN1⟩ : ∃ n_, w.heap.size = n_ := ⟨_, rfl⟩
 rw [hN1] at HL HS1 HSZ HBW
 clear hN1
 obtain ⟨N2, hN2⟩ : ∃ n_, w1.heap.size = n_ := ⟨_, rfl⟩
 have HN2 := Aside0.mk (show N2 ≤ w1.heap.size by omega)
 rw [hN2] at HL HS1 HSZ
 clear hN2
 have HG := Aside0.mk (show ([] : List (List Int)) ++ Math.restB low high low = Math.boxes low high from Math.restB_low low high HLe.out)
 have HP := Aside0.mk (show Math.ptLe low low ∧ Math.ptLe low high from ⟨Math.ptLe_of_get _ _ rfl (fun i _ _ => Int.le_refl _), HLe.out⟩)
 go_loopg [7] (Math.restB low high low).length (fun gg _ wr => ∃ (cur : List Int) (u : Value) (out : List (List Int)), (Math.restB low high cur).length ≤ gg ∧ Aside0 (Math.ptLe low cur ∧ Math.ptLe cur high) ∧ Aside0 (out ++ Math.restB low high cur = Math.boxes low high) ∧ Aside0 (Kd.R (Kd.int .i64) 3 wr w0.heap.size (fun k => N1 ≤ k ∧ k < N2) (.slice A6 low.length c6) cur) ∧ Aside0 (wr.heap[B]? = some (.cells #[u] 47 (0, 0))) ∧ Aside0 (Kd.S (Kd.slice 3 (Kd.int .i64)) 24 wr w0.heap.size (fun k => (Nz ≤ k ∧ k ≠ B) ∧ ¬ (N1 ≤ k ∧ k < N2)) u out) ∧ Aside0 (Kd.R (Kd.int .i64) 3 wr w0.heap.size (fun k => k < Nz) (.slice A0 low.length c0) low) ∧ Aside0 (Below w0.heap.size w0 wr) ∧ Aside0 (N2 ≤ wr.heap.size))
 case atStart => exact ⟨low, u, [], Nat.le_refl _, HP, HG, HL, HBX1, HS1, HW1, HB1, HN2⟩
 case round =>
  clear HL HBX1 HS1 HW1 HB1 HN2 HG HP
  obtain ⟨cur, u, out, hgg, HP, HG, HL, HBX, HS, HW, HB, HN⟩ := hrel
  rename World => wA
  have hcl := (Kd.R_reads' HL.out).1
  have HCU := Aside0.mk hcl
  have HCN := Aside0.mk (Kd.R_reads' HL.out).2
  have HLO := Aside0.mk (show out.length ≤ 500 by
   have h1 := Hn.out
   rw [← HG.out] at h1
   simp only [List.length_append] at h1
   omega)
  have hcall := impl_AllWithOutcome_1.calls A6 c6 B cur u out _ w0 wA HB.out (hcl ▸ HCN.out.2) (hcl ▸ HCN.out.1) (by have := HL8.out; omega) HLO.out HB0.out HBX.out HS.out (fun k hk => hk.1.2)
  rw [← hcl] at hcall
  have HCALL := Aside0.mk hcall
  clear hcall hcl
  go_wp2_with (go_at_call 144; refine HCALL.out.mono ?_; rintro e w2 ⟨rfl, u2, hbx2, hs2, hb2, hk2⟩; have HBX2 := Aside0.mk hbx2; have HS2 := Aside0.mk (Kd.S_mono (ok' := fun k => (Nz ≤ k ∧ k ≠ B) ∧ ¬ (N1 ≤ k ∧ k < N2)) hs2 (fun k hk => hk.elim id (fun h => by have := HN.out; have := HSZ.out; have := HBW.out; have := HNz.out; exact ⟨⟨by omega, by omega⟩, by omega⟩))); have HL2 := Aside0.mk (Kd.R_kept HL.out hk2 (fun k hk h => h.elim (fun h => h.2 hk) (fun h => by have := HBW.out; omega))); have HW2 := Aside0.mk (Kd.R_kept HW.out hk2 (fun k hk h => h.elim (fun h => by omega) (fun h => by have := HNz.out; omega))); have HB2 := Aside0.mk hb2; have HN2 := Aside0.mk (Nat.le_trans HN.out hk2.1); clear hbx2 hs2 hb2 hk2 HL HBX HS HW HB HN HCALL)
  have HD2 := Aside0.mk (show Kd.R (Kd.int .i64) 3 w2 w0.heap.size (fun k => N1 ≤ k ∧ k < N2) (.slice A6 low.length c6) (cur.take low.length ++ low.drop low.length) by
   rw [List.drop_of_length_le (Nat.le_refl _), List.append_nil, List.take_of_length_le (by have := HCU.out; omega)]
   exact HL2.out)
  clear HL2
  go_loopg [7] low.length (fun gg2 s7 w3 => ∃ (i : Nat) (j : Int), s7 = .int .i64 j ∧ Aside0 (j = (i : Int) - 1) ∧ i ≤ low.length ∧ i ≤ gg2 ∧ Aside0 (cur.drop i = high.drop i) ∧ Aside0 (Kd.R (Kd.int .i64) 3 w3 w0.heap.size (fun k => N1 ≤ k ∧ k < N2) (.slice A6 low.length c6) (cur.take i ++ low.drop i)) ∧ Aside0 (w3.heap[B]? = some (.cells #[u2] 47 (0, 0))) ∧ Aside0 (Kd.S (Kd.slice 3 (Kd.int .i64)) 24 w3 w0.heap.size (fun k => (Nz ≤ k ∧ k ≠ B) ∧ ¬ (N1 ≤ k ∧ k < N2)) u2 (out ++ [cur])) ∧ Aside0 (Kd.R (Kd.int .i64) 3 w3 w0.heap.size (fun k => k < Nz) (.slice A0 low.length c0) low) ∧ Aside0 (Below w0.heap.size w0 w3) ∧ Aside0 (N2 ≤ w3.heap.size))
  case atStart => exact ⟨low.length, _, rfl, ⟨by have := HL8.out; unfold wrap64; omega⟩, Nat.le_refl _, Nat.le_refl _, ⟨by rw [List.drop_of_length_le (by have := HCU.out; omega), List.drop_of_length_le (by have := HLl.out; omega)]⟩, HD2, HBX2, HS2, HW2, HB2, HN2⟩
  case round =>
   clear HD2 HBX2 HS2 HW2 HB2 HN2
   obtain ⟨i, j, rfl, HJ, hi, hgg2, HD, HL, HBX, HS, HW, HB, HN⟩ := hrel
   rename World => wB
   by_cases hj : 0 ≤ j
   ·have hjl : j < (low.length : Int) := by have := HJ.out; omega
    obtain ⟨p, rfl⟩ : ∃ p : Nat, j = (p : Int) := ⟨j.toNat, by omega⟩
    have hip : i = p + 1 := by have := HJ.out; omega
    subst hip
    have hpl : p < low.length := by omega
    have hpc : p < cur.length := by have := HCU.out; omega
    have hph : p < high.length := by have := HLl.out; omega
    have hml := mixed_len cur low (p + 1) HCU.out.symm
    obtain ⟨g, cap, ev, hgb, hgl, _⟩ := Kd.R_form HL.out (by omega)
    injection ev with eA en ec
    subst eA
    clear en
    subst ec
    have HGB := Aside0.mk hgb
    have HGO := Aside0.mk (HL.out.1 g rfl)
    clear hgb hgl
    obtain ⟨hx1, hf1⟩ := Kd.R_celln 0 HL.out (p : Int) hj hjl
    have hrd1 : rdOf 0 (cur.take (p + 1) ++ low.drop (p + 1)) (p : Int) = cur[p] := by
     unfold rdOf
     rw [Int.toNat_natCast, List.getD_eq_getElem?_getD, List.getElem?_eq_getElem (by omega), Option.getD_some]
     exact mixed_at cur low p hpc (by omega)
    rw [hrd1] at hx1
    obtain ⟨ad2, e2, hx2⟩ := Kd.at_int (Kd.C_below HH.out HB.out) (p : Int) hj (by omega)
    rw [rdI_all high (p : Int) hj (by rw [Int.toNat_natCast]; exact hph)] at hx2
    obtain ⟨ad3, e3, hx3⟩ := Kd.at_int (Kd.R_reads' HW.out).2.2 (p : Int) hj hjl
    rw [rdI_all low (p : Int) hj (by rw [Int.toNat_natCast]; exact hpl)] at hx3
    simp only [Int.toNat_natCast] at hx1 hf1 hx2 hx3
    subst e2
    subst e3
    have HX := Aside0.mk hx1
    have HF := Aside0.mk hf1
    have HXL := Aside0.mk hx3
    by_cases heq : cur[p] = high[p]
    ·have HDn := Aside0.mk (show cur.drop p = high.drop p by
      rw [List.drop_eq_getElem_cons hpc, List.drop_eq_getElem_cons hph, heq, HD.out])
     have hb0 : decide (0 ≤ (p : Int)) = true := decide_eq_true hj
     have hb1 : ((cur[p] : Int) == high[p]) = true := by rw [heq]; simp
     rw [heq] at hx1
     clear heq hrd1
     go_wp2_with fail
     go_quiet (fail)
     have hput := Kd.R_putn (Kd.R_drewN HL.out nq) (p : Int) low[p]
     rw [Int.toNat_natCast, mixed_back cur low p hpc HCU.out.symm] at hput
     have HPUT := Aside0.mk hput
     have HBX2 := Aside0.mk (blk_drewN HBX.out nq)
     have HS2 := Aside0.mk (Kd.S_drewN HS.out nq)
     have HW2 := Aside0.mk (Kd.R_drewN HW.out nq)
     have HB2 := Aside0.mk (pw_below_drewN HB.out nq)
     have HN2 := Aside0.mk (show N2 ≤ (wB.drewN nq).heap.size from HN.out)
     have hx1' : (wB.drewN nq).cell? ⟨g, p, none⟩ = some (.int .i64 cur[p]) := by simpa using HX.out
     have hf1' : (wB.drewN nq).frozen? ⟨g, p, none⟩ = false := by simpa using HF.out
     have hx3' : (wB.drewN nq).cell? (ad3.add p) = some (.int .i64 low[p]) := by simpa using HXL.out
     clear hput HL HBX HS HW HB HN hx1 hf1 hx2 hx3 HX HF HXL hb1
     generalize wB.drewN nq = wC at HPUT HBX2 HS2 HW2 HB2 HN2 hx1' hf1' hx3' ⊢
     go_wp2
     go_roundg p
     case measure => omega
     case rel => exact ⟨p, (p : Int) - 1, by rw [wrapS_all _ (by omega) (by have := HL8.out; omega)], ⟨rfl⟩, by omega, Nat.le_refl _, HDn, HPUT, ⟨blk_far HBX2.out (p := ⟨g, p, none⟩) (by have := HGO.out; have := HBW.out; intro e; have e2 : B = g := e; omega) _⟩, ⟨Kd.S_far HS2.out (p := ⟨g, p, none⟩) (fun k hk e => hk.2 (by have e2 : k = g := e; rw [e2]; exact HGO.out)) _⟩, ⟨Kd.R_far HW2.out (p := ⟨g, p, none⟩) (fun k hk e => by have e2 : k = g := e; have := HGO.out; have := HBW.out; have := HNz.out; omega) _⟩, ⟨HB2.out.setCell HGB.out _⟩, ⟨by simpa [World.setCell] using HN2.out⟩⟩
    ·have hlt : cur[p] < high[p] := by
      have := Math.ptLe_get _ _ HP.out.2 p hpc hph
      omega
     have hstep := Math.restB_step low high cur p hpc hph HLe.out (by have := HCU.out; have := HLl.out; omega) HD.out hlt
     have hpn := ptLe_next low cur high p hpc hph HP.out.1 HP.out.2 hlt HLe.out
     have hy0 : 0 ≤ cur[p] := by
      have h1 := Math.ptLe_get _ _ HP.out.1 p hpl hpc
      have h2 := HX0.out low[p] (List.getElem_mem hpl)
      omega
     have hy1 : cur[p] < 1000 := by
      have h2 := HX1.out high[p] (List.getElem_mem hph)
      omega
     have hb0 : decide (0 ≤ (p : Int)) = true := decide_eq_true hj
     have hb1 : ((cur[p] : Int) == high[p]) = false := by simp; omega
     have hb2 : decide ((p : Int) < 0) = false := decide_eq_false (by omega)
     have HST := Aside0.mk hstep
     have HPN := Aside0.mk hpn
     have hmn := mixed_next cur low p hpc (cur[p] + 1)
     have HMN := Aside0.mk hmn
     clear heq hrd1 hlt hstep hpn hmn
     generalize cur[p] = y at hx1 HX hy0 hy1 hb1 HST HPN HMN
     go_wp2_with fail
     go_quiet (fail)
     have hput := Kd.R_putn (Kd.R_drewN HL.out nq) (p : Int) (y + 1)
     rw [Int.toNat_natCast, HMN.out] at hput
     have HPUT := Aside0.mk hput
     have HBX2 := Aside0.mk (blk_drewN HBX.out nq)
     have HS2 := Aside0.mk (Kd.S_drewN HS.out nq)
     have HW2 := Aside0.mk (Kd.R_drewN HW.out nq)
     have HB2 := Aside0.mk (pw_below_drewN HB.out nq)
     have HN2 := Aside0.mk (show N2 ≤ (wB.drewN nq).heap.size from HN.out)
     have hx1' : (wB.drewN nq).cell? ⟨g, p, none⟩ = some (.int .i64 y) := by simpa using HX.out
     have hf1' : (wB.drewN nq).frozen? ⟨g, p, none⟩ = false := by simpa using HF.out
     clear hput HL HBX HS HW HB HN hx1 hf1 hx2 hx3 HX HF HXL hb1
     generalize wB.drewN nq = wC at HPUT HBX2 HS2 HW2 HB2 HN2 hx1' hf1' ⊢
     go_wp2
     go_roundg (Math.restB low high (cur.take p ++ (y + 1) :: low.drop (p + 1))).length
     case measure =>
      have h1 := HST.out
      rw [h1, List.length_cons] at hgg
      omega
     case rel => exact ⟨cur.take p ++ (y + 1) :: low.drop (p + 1), u2, out ++ [cur], Nat.le_refl _, HPN, ⟨by rw [← HG.out, HST.out, List.append_assoc]; rfl⟩, ⟨by first | exact HPUT.out | (rw [wrapT_all y (by omega) (by omega)]; exact HPUT.out)⟩, ⟨blk_far HBX2.out (p := ⟨g, p, none⟩) (by have := HGO.out; have := HBW.out; intro e; have e2 : B = g := e; omega) _⟩, ⟨Kd.S_far HS2.out (p := ⟨g, p, none⟩) (fun k hk e => hk.2 (by have e2 : k = g := e; rw [e2]; exact HGO.out)) _⟩, ⟨Kd.R_far HW2.out (p := ⟨g, p, none⟩) (fun k hk e => by have e2 : k = g := e; have := HGO.out; have := HBW.out; have := HNz.out; omega) _⟩, ⟨HB2.out.setCell HGB.out _⟩, ⟨by simpa [World.setCell] using HN2.out⟩⟩
   ·have hi0 : i = 0 := by have := HJ.out; omega
    subst hi0
    have hj2 : j = -1 := by have := HJ.out; omega
    subst hj2
    have HEq := Aside0.mk (show out ++ [cur] = Math.boxes low high by
     have h1 := HD.out
     rw [List.drop_zero, List.drop_zero] at h1
     have h2 := HG.out
     rw [h1, Math.restB_high low high HLe.out] at h2
     rw [h1]
     exact h2)
    go_wp2_with fail
    go_quiet (fail)
    have HBX2 := Aside0.mk (blk_drewN HBX.out nq)
    have HS2 := Aside0.mk (Kd.S_drewN HS.out nq)
    have HB2 := Aside0.mk (pw_below_drewN HB.out nq)
    clear HL HBX HS HW HB HN
    generalize wB.drewN nq = wC at HBX2 HS2 HB2 ⊢
    go_wp2
    first | go_end0 | refine bodyPost_ret (results_none rfl _ _ _) rfl ?_
    exact ⟨rfl, u2, HBX2.out, by rw [← HEq.out]; exact Kd.S_mono HS2.out (fun k hk => hk.1.2), HB2.out⟩

/-! ### impl_AllWithOutcome: function 69 -/
/-- from the rows' lengths: the least favourites -/
def lowOf (l rs : List Int) : List Int := List.zipWith (fun x n => x - (n - 1)) l rs
def awoB (l rs : List Int) : Bool := decide (l.length ≤ 8) && decide (rs.length = l.length) && (l.all fun x => decide (x < 1000)) && (rs.all fun n => decide (1 ≤ n) && decide (n ≤ 1000)) && ((lowOf l rs).all fun x => decide (0 ≤ x)) && decide ((Math.boxes (lowOf l rs) l).length ≤ 500)
theorem lowOf_len (l rs : List Int) (h : rs.length = l.length) : (lowOf l rs).length = l.length := by
 simp [lowOf, h]
theorem lowOf_at (l rs : List Int) (i : Nat) (h1 : i < l.length) (h2 : i < rs.length) (h3 : i < (lowOf l rs).length) : (lowOf l rs)[i] = l[i] - (rs[i] - 1) := by
 simp [lowOf]
theorem lowOf_le (l rs : List Int) (h : rs.length = l.length) (h1 : ∀ n ∈ rs, 1 ≤ n) : Math.ptLe (lowOf l rs) l :=
 Math.ptLe_of_get _ _ (lowOf_len l rs h) (fun i a b => by
  rw [lowOf_at l rs i b (by omega) a]
  have := h1 rs[i] (List.getElem_mem (by omega))
  omega)
theorem low_back (L l : List Int) (i : Nat) (hL : i < L.length) (hl : i < l.length) : (L.take i ++ l.drop i).set i L[i] = L.take (i + 1) ++ l.drop (i + 1) := by
 rw [List.drop_eq_getElem_cons hl, List.set_append_right _ _ (by simp; omega), show i - (L.take i).length = 0 by simp; omega, List.set_cons_zero, List.take_succ_eq_append_getElem hL, List.append_assoc]
 rfl
theorem low_at (L l : List Int) (i : Nat) (hL : i < L.length) (hl : i < l.length) (h : i < (L.take i ++ l.drop i).length) : (L.take i ++ l.drop i)[i] = l[i] := by
 rw [List.getElem_append_right (by simp; omega)]
 simp [show i - min i L.length = 0 by omega]
def impl_AllWithOutcome.f (k : Nat) (l0 : List Int) : Option (List (List Int) × Bool) := (impl_CountWithOutcome.f k l0).bind fun c => if c.2 = true then (if 500 < c.1 then some ([], false) else (impl_rows.f k l0).bind fun rs => if awoB l0 rs = true then some (Math.boxes (lowOf l0 rs) l0, true) else none) else some ([], false)
theorem impl_AllWithOutcome.mono : ∀ a0 k, LeO (impl_AllWithOutcome.f k a0) (impl_AllWithOutcome.f (k + 1) a0) := by
 intro a0 k
 unfold impl_AllWithOutcome.f
 exact LeO.bind (impl_CountWithOutcome.mono _ _) (fun c => LeO.ite (LeO.ite (LeO.refl _) (LeO.bind (impl_rows.mono _ _) (fun _ => LeO.refl _))) (LeO.refl _))
set_option maxHeartbeats 16000000 in
set_option maxRecDepth 100000 in
theorem impl_AllWithOutcome.calls (k : Nat) (A0 : Option Addr) (c0 : Nat) (l0 : List Int) (r1 : List (List Int)) (r2 : Bool) (w : World) (hr0 : Kd.C (Kd.int .i64) w A0 l0.length l0) (hc0 : l0.length ≤ c0) (h : impl_AllWithOutcome.f k l0 = some (r1, r2)) :
  Calls Try.prog 69 #[.slice A0 l0.length c0] w fun e w' => ∃ v0_ : Value, e = .returned (.tuple #[v0_, .bool r2]) ∧ Kd.S (Kd.slice 3 (Kd.int .i64)) 24 w' w.heap.size (fun _ => True) v0_ r1 ∧ Below w.heap.size w w' := by
 unfold impl_AllWithOutcome.f at h
 obtain ⟨⟨m, ok⟩, hm, h⟩ := Option.bind_eq_some_iff.mp h
 have HM := Aside0.mk hm
 have HR0 := Aside0.mk hr0
 have HC0 := Aside0.mk hc0
 clear hm hr0 hc0
 dsimp only at h
 cases ok with
 | false =>
  rw [if_neg (by simp)] at h
  simp only [Option.some.injEq, Prod.mk.injEq] at h
  obtain ⟨rfl, rfl⟩ := h
  go_enter Try.func69, Try.ntmps69
  go_wp2_with (go_at_call 61; refine (impl_CountWithOutcome.calls k A0 c0 l0 m false _ HR0.out HC0.out HM.out).mono ?_; rintro e w1 ⟨rfl, hb⟩; have HB := Aside0.mk hb; clear hb)
  go_ret2
  exact ⟨_, rfl, Kd.S_nil _ _ _ _ _, HB.out⟩
 | true =>
  rw [if_pos rfl] at h
  by_cases hm5 : 500 < m
  ·rw [if_pos hm5] at h
   simp only [Option.some.injEq, Prod.mk.injEq] at h
   obtain ⟨rfl, rfl⟩ := h
   have hb5 : decide (500 < m) = true := decide_eq_true hm5
   go_enter Try.func69, Try.ntmps69
   go_wp2_with (go_at_call 61; refine (impl_CountWithOutcome.calls k A0 c0 l0 m true _ HR0.out HC0.out HM.out).mono ?_; rintro e w1 ⟨rfl, hb⟩; have HB := Aside0.mk hb; clear hb)
   go_ret2
   exact ⟨_, rfl, Kd.S_nil _ _ _ _ _, HB.out⟩
  ·rw [if_neg hm5] at h
   have hb5 : decide (500 < m) = false := decide_eq_false hm5
   obtain ⟨rs, hrs, h⟩ := Option.bind_eq_some_iff.mp h
   by_cases hA : awoB l0 rs = true
   ·rw [if_pos hA] at h
    simp only [Option.some.injEq, Prod.mk.injEq] at h
    obtain ⟨rfl, rfl⟩ := h
    simp only [awoB, Bool.and_eq_true, decide_eq_true_eq, List.all_eq_true] at hA
    obtain ⟨⟨⟨⟨⟨hA1, hA2⟩, hA3⟩, hA4⟩, hA5⟩, hA6⟩ := hA
    have HRS := Aside0.mk hrs
    have H8 := Aside0.mk hA1
    have HRl := Aside0.mk hA2
    have HX1 := Aside0.mk hA3
    have HN1 := Aside0.mk hA4
    have HX0 := Aside0.mk hA5
    have Hn := Aside0.mk hA6
    have HLe := Aside0.mk (lowOf_le l0 rs hA2 (fun n hn => (hA4 n hn).1))
    have HLL := Aside0.mk (lowOf_len l0 rs hA2)
    have HAT := Aside0.mk (lowOf_at l0 rs)
    have HCL := Aside0.mk (show slices_Clone_int_int.f l0 = some l0 by
     unfold slices_Clone_int_int.f
     rw [if_pos (by omega)])
    generalize lowOf l0 rs = L at HX0 Hn HLe HLL HAT ⊢
    clear hrs hA1 hA2 hA3 hA4 hA5 hA6 hm5
    go_enter Try.func69, Try.ntmps69
    go_wp2_with (first
     | (go_at_call 61; refine (impl_CountWithOutcome.calls k A0 c0 l0 m true _ HR0.out HC0.out HM.out).mono ?_; rintro e w1 ⟨rfl, hb⟩; have HB := Aside0.mk hb; clear hb)
     | (go_at_call 142; refine (slices_Clone_int_int.calls A0 c0 l0 l0 _ (Kd.C_below HR0.out HB.out) HC0.out HCL.out).mono ?_; rintro e w2 ⟨v6, rfl, ho, hb⟩; obtain ⟨A6, c6, rfl⟩ := Kd.R_slice ho; have HL := Aside0.mk (Kd.R_lower (Kd.R_mono (ok' := fun k_ => k_ < w2.heap.size) (Kd.R_bound ho) (fun k_ hk => hk.2.2.1)) (below_size HB.out)); have HB2 := Aside0.mk (below_step HB.out hb); clear ho hb HB)
     | (go_at_call 137; refine (impl_rows.calls k A0 c0 l0 rs _ (Kd.C_below HR0.out HB2.out) HC0.out HRS.out).mono ?_; rintro e w3 ⟨v24, rfl, ho, hb⟩; obtain ⟨A24, c24, rfl⟩ := Kd.R_slice ho; have HL3 := Aside0.mk (Kd.R_below HL.out hb); have HRW := Aside0.mk (Kd.R_lower (Kd.R_mono (ok' := fun k_ => w2.heap.size ≤ k_) (Kd.R_bound ho) (fun k_ hk => hk.2.1)) (below_size HB2.out)); have HB3 := Aside0.mk (below_step HB2.out hb); clear ho hb HL HB2))
    obtain ⟨N1, hN1⟩ : ∃ n_, w2.heap.size = n_ := ⟨_, rfl⟩
    rw [hN1] at HL3 HRW
    clear hN1
    have HLi := Aside0.mk (show Kd.R (Kd.int .i64) 3 w3 w.heap.size (fun k_ => k_ < N1) (.slice A6 l0.length c6) (L.take 0 ++ l0.drop 0) from HL3.out)
    clear HL3
    go_loopg [26] rs.length (fun gg s26 wr => ∃ i : Nat, s26 = .int .i64 (i : Int) ∧ i ≤ rs.length ∧ rs.length - i ≤ gg ∧ Aside0 (Kd.R (Kd.int .i64) 3 wr w.heap.size (fun k_ => k_ < N1) (.slice A6 l0.length c6) (L.take i ++ l0.drop i)) ∧ Aside0 (Kd.R (Kd.int .i64) 3 wr w.heap.size (fun k_ => N1 ≤ k_) (.slice A24 rs.length c24) rs) ∧ Aside0 (Below w.heap.size w wr))
    case atStart => exact ⟨0, rfl, Nat.zero_le _, by omega, HLi, HRW, HB3⟩
    case round =>
     clear HLi HRW HB3
     obtain ⟨i, rfl, hi, hgg, HL, HRW, HB⟩ := hrel
     rename World => wA
     by_cases hlt : i < rs.length
     ·have hltz : (i : Int) < (rs.length : Int) := by omega
      have hil : i < l0.length := by have := HRl.out; omega
      have hiL : i < L.length := by have := HLL.out; omega
      have hltl : (i : Int) < (l0.length : Int) := by omega
      have hi0 : (0 : Int) ≤ (i : Int) := by omega
      have hml : (L.take i ++ l0.drop i).length = l0.length := by
       have := HLL.out
       simp
       omega
      obtain ⟨g, cap, ev, hgb, _, _⟩ := Kd.R_form HL.out (by omega)
      injection ev with eA en ec
      subst eA
      clear en
      subst ec
      have HGB := Aside0.mk hgb
      have HGO := Aside0.mk (HL.out.1 g rfl)
      clear hgb
      obtain ⟨hx1, hf1⟩ := Kd.R_celln 0 HL.out (i : Int) hi0 hltl
      have hrd1 : rdOf 0 (L.take i ++ l0.drop i) (i : Int) = l0[i] := by
       unfold rdOf
       rw [Int.toNat_natCast, List.getD_eq_getElem?_getD, List.getElem?_eq_getElem (by omega), Option.getD_some]
       exact low_at L l0 i hiL hil (by omega)
      rw [hrd1] at hx1
      obtain ⟨ad2, e2, hx2⟩ := Kd.at_int (Kd.R_reads' HRW.out).2.2 (i : Int) hi0 hltz
      rw [rdI_all rs (i : Int) hi0 (by rw [Int.toNat_natCast]; exact hlt)] at hx2
      simp only [Int.toNat_natCast] at hx1 hf1 hx2
      subst e2
      have hat := HAT.out i hil hlt hiL
      have hn1 := HN1.out rs[i] (List.getElem_mem hlt)
      have hy1 := HX1.out l0[i] (List.getElem_mem hil)
      have hx0 := HX0.out L[i] (List.getElem_mem hiL)
      have hput := Kd.R_putn HL.out (i : Int) L[i]
      rw [Int.toNat_natCast, low_back L l0 i hiL hil] at hput
      have HPUT := Aside0.mk hput
      have hy0 : 0 ≤ l0[i] := by omega
      have hn0 : 1 ≤ rs[i] := hn1.1
      have hn2 : rs[i] ≤ 1000 := hn1.2
      have HAT1 := Aside0.mk hat
      clear hput hat hn1 hrd1
      generalize l0[i] = y at hx1 hy1 hy0 HAT1
      generalize rs[i] = n at hx2 hn0 hn2 HAT1
      generalize L[i] = z at hx0 HPUT HAT1
      have hw1 : wrap64 (n - 1) = n - 1 := by
       unfold wrap64
       omega
      have hw2 : wrap64 (y - (n - 1)) = z := by
       have := HAT1.out
       unfold wrap64
       omega
      have HW1 := Aside0.mk hw1
      have HW2 := Aside0.mk hw2
      clear hw1 hw2
      go_wp2
      go_roundg (rs.length - (i + 1))
      case measure => omega
      case rel => exact ⟨i + 1, by (rw [wrapT_all _ (by omega) (by have := H8.out; have := HRl.out; omega)]; go_num), by omega, by omega, ⟨by first | (rw [HW1.out, HW2.out]; exact HPUT.out) | (rw [← HAT1.out]; exact HPUT.out) | (rw [HW2.out]; exact HPUT.out)⟩, ⟨Kd.R_far HRW.out (p := ⟨g, i, none⟩) (fun k_ hk e => by have e2 : k_ = g := e; have := HGO.out; omega) _⟩, ⟨HB.out.setCell HGB.out _⟩⟩
     ·have hltz : ¬ (i : Int) < (rs.length : Int) := by omega
      have HE := Aside0.mk (show Kd.R (Kd.int .i64) 3 wA w.heap.size (fun k_ => k_ < wA.heap.size) (.slice A6 L.length c6) L by
       have h1 := HL.out
       have e1 := HRl.out
       have e2 := HLL.out
       rw [List.drop_of_length_le (by omega), List.append_nil, List.take_of_length_le (by omega), ← e2] at h1
       exact Kd.R_mono (Kd.R_bound h1) (fun k_ hk => hk.2.2.1))
      clear HL HRW
      go_wp2_with (((with_reducible refine gate_dst (N := 40) rfl ?_); refine Kd.S_lit (Kd.slice 3 (Kd.int .i64)) (w0 := wA) wA.heap.size 24 ?hg (N := 40) ?hd (xs := ([] : List (List Int))) (inner := []) (ok := fun _ => True) (okp := fun _ => True) ?hr ?hp (fun _ hk => hk) trivial (by repeat (first | exact Below.refl _ _ | apply pw_below_drewN | apply below_drew1)) (Nat.le_refl _) (by simp) ?_; (case hd => rfl); (case hg => rfl); (case hr => first | (go_simp; done) | (go_simp; rfl)); (case hp => exact (Reps.none _ _)); intro v40 w4 ho4 hb hg_ hnew_; clear hg_ hnew_; obtain ⟨A40, c40, rfl⟩ := Kd.S_slice ho4; have HS := Aside0.mk ho4; have HBr := Aside0.mk hb; clear hb ho4))
      have HBY := Aside0.mk (blk_new w4 (.cells #[.slice A40 0 c40] 47 (0, 0)))
      have HSY := Aside0.mk (show Kd.S (Kd.slice 3 (Kd.int .i64)) 24 (w4.alloc (.cells #[.slice A40 0 c40] 47 (0, 0))) w.heap.size (fun k_ => wA.heap.size ≤ k_ ∧ k_ ≠ w4.heap.size) (.slice A40 0 c40) [] from Kd.S_alloc (Kd.S_lower (Kd.S_mono (Kd.S_bound HS.out) (fun k_ hk => ⟨hk.2.1, by have := hk.2.2.1; omega⟩)) (below_size HB.out)) _)
      have HLY := Aside0.mk (Kd.R_alloc (Kd.R_below HE.out HBr.out) (.cells #[.slice A40 0 c40] 47 (0, 0)))
      have HBB := Aside0.mk (below_alloc (below_weaken HB.out HB.out.size HBr.out) (.cells #[.slice A40 0 c40] 47 (0, 0)))
      have HSZ := Aside0.mk (show wA.heap.size ≤ w4.heap.size from HBr.out.size)
      have HSW := Aside0.mk (show w.heap.size ≤ wA.heap.size from HB.out.size)
      have hcall := impl_all.calls A6 A0 c6 c0 w4.heap.size wA.heap.size L l0 (.slice A40 0 c40) w _ HBB.out (Nat.le_trans HSW.out HSZ.out) HSZ.out HLY.out HR0.out HC0.out H8.out HLe.out HX0.out HX1.out Hn.out HBY.out HSY.out
      rw [HLL.out] at hcall
      have HCALL := Aside0.mk hcall
      clear hcall HS HBr HB HE HBY HSY HLY HBB
      go_wp2_with (go_at_call 143; refine HCALL.out.mono ?_; rintro e w5 ⟨rfl, u5, hbx5, hs5, hb5_⟩; have hc5 := cell_of_one hbx5; have HS5 := Aside0.mk hs5; have HB5 := Aside0.mk hb5_; clear hbx5 hs5 hb5_ HCALL)
      go_ret2
      exact ⟨_, rfl, Kd.S_mono HS5.out (fun _ _ => trivial), HB5.out⟩
   ·rw [if_neg hA] at h
    cases h

/-- A state of type 68 at block g of W; what its slices lead to came in by w0. -/
def IsS68 (w0 W : World) (g : Nat) (f0 : List Int) (f1 : Int) (f2 : Int) : Prop := ∃ A0 c0, W.heap[g]? = some (.cells #[.slice A0 f0.length c0, .int .i64 f1, .int .u64 f2] 68 (0, 0)) ∧ w0.heap.size ≤ g ∧ Kd.C (Kd.int .u8) w0 A0 f0.length f0
theorem IsS68.grown {w0 W : World} {g : Nat} {f0 : List Int} {f1 : Int} {f2 : Int} {W1 : World} {row : Option Nat} (h : IsS68 w0 W g f0 f1 f2) (hw : W.grownBy W1 row) (hne : some g ≠ row) : IsS68 w0 W1 g f0 f1 f2 := by
 obtain ⟨A0, c0, hb, hg, hr0⟩ := h
 exact ⟨A0, c0, blk_grown hb hw hne, hg, hr0⟩
theorem IsS68.own_neN {w0 W : World} {g : Nat} {f0 : List Int} {f1 : Int} {f2 : Int} {α : Type} {d : Kd α} {e : Nat} {base : Nat} {ok : Nat → Prop} {v : Value} {xs : List α} (h : IsS68 w0 W g f0 f1 f2) (ho : Kd.N d e W base ok v xs) (ht : e ≠ 68) : some g ≠ v.ownBlock := by
 obtain ⟨A0, c0, hb, hg, hr0⟩ := h
 exact Kd.N_ne ho hb ht
theorem IsS68.fresh {w0 W : World} {g : Nat} {f0 : List Int} {f1 : Int} {f2 : Int} (h : IsS68 w0 W g f0 f1 f2) : ∀ k, W.heap.size ≤ k → k ≠ g := by
 obtain ⟨A0, c0, hb, hg, hr0⟩ := h
 exact Kd.freshB hb
theorem IsS68.kept {w0 W : World} {g : Nat} {f0 : List Int} {f1 : Int} {f2 : Int} {W1 : World} {S : Nat → Prop} (h : IsS68 w0 W g f0 f1 f2) (hk : Kept W W1 S) (hne : ¬ S g) : IsS68 w0 W1 g f0 f1 f2 := by
 obtain ⟨A0, c0, hb, hg, hr0⟩ := h
 exact ⟨A0, c0, blk_kept hb hk hne, hg, hr0⟩
theorem IsS68.below {w0 W : World} {g : Nat} {f0 : List Int} {f1 : Int} {f2 : Int} {W1 : World} (h : IsS68 w0 W g f0 f1 f2) (hw : Below W.heap.size W W1) : IsS68 w0 W1 g f0 f1 f2 := h.grown (grown_of_below hw none) (by simp)
theorem IsS68.alloc {w0 W : World} {g : Nat} {f0 : List Int} {f1 : Int} {f2 : Int} (h : IsS68 w0 W g f0 f1 f2) (o : Obj) : IsS68 w0 (W.alloc o) g f0 f1 f2 := h.below (below_alloc (Below.refl _ _) o)
theorem IsS68.drewN {w0 W : World} {g : Nat} {f0 : List Int} {f1 : Int} {f2 : Int} (h : IsS68 w0 W g f0 f1 f2) (m : Nat) : IsS68 w0 (W.drewN m) g f0 f1 f2 := h
theorem IsS68.drew {w0 W : World} {g : Nat} {f0 : List Int} {f1 : Int} {f2 : Int} (h : IsS68 w0 W g f0 f1 f2) : IsS68 w0 W.drew g f0 f1 f2 := h
theorem IsS68.at_ {w0 W : World} {g : Nat} {f0 : List Int} {f1 : Int} {f2 : Int} {w' : World} {m : Nat} (hq : W.drewN m = w') (h : IsS68 w0 W g f0 f1 f2) : IsS68 w0 w' g f0 f1 f2 := by subst hq; exact IsS68.drewN h m
theorem IsS68.apart {w0 W : World} {g : Nat} {f0 : List Int} {f1 : Int} {f2 : Int} {α : Type} {d : Kd α} {e : Nat} {base : Nat} {ok : Nat → Prop} {v : Value} {xs : List α} (h : IsS68 w0 W g f0 f1 f2) (ho : d.R e W base ok v xs) (ht : ∀ q, q ∈ e :: d.E → q ≠ 68) : d.R e W base (fun k => ok k ∧ k ≠ g) v xs := by
 obtain ⟨A0, c0, hb, hg, hr0⟩ := h
 exact Kd.R_types ho hb ht
theorem IsS68.own_ne {w0 W : World} {g : Nat} {f0 : List Int} {f1 : Int} {f2 : Int} {α : Type} {d : Kd α} {e : Nat} {base : Nat} {ok : Nat → Prop} {v : Value} {xs : List α} (h : IsS68 w0 W g f0 f1 f2) (ho : d.R e W base ok v xs) (ht : e ≠ 68) : some g ≠ v.ownBlock := by
 obtain ⟨A0, c0, hb, hg, hr0⟩ := h
 exact Kd.R_ne ho hb ht
theorem IsS68.apartQ {w0 W : World} {g : Nat} {f0 : List Int} {f1 : Int} {f2 : Int} {α : Type} {d : Kd α} {e : Nat} {base : Nat} {ok : Nat → Prop} {v : Value} {xs : List α} (h : IsS68 w0 W g f0 f1 f2) (ho : d.Q e W base ok v xs) (ht : ∀ q, q ∈ e :: d.E → q ≠ 68) : d.Q e W base (fun k => ok k ∧ k ≠ g) v xs := by
 obtain ⟨A0, c0, hb, hg, hr0⟩ := h
 exact Kd.Q_types ho hb ht
theorem IsS68.own_neQ {w0 W : World} {g : Nat} {f0 : List Int} {f1 : Int} {f2 : Int} {α : Type} {d : Kd α} {e : Nat} {base : Nat} {ok : Nat → Prop} {v : Value} {xs : List α} (h : IsS68 w0 W g f0 f1 f2) (ho : d.Q e W base ok v xs) (ht : e ≠ 68) : some g ≠ v.ownBlock := by
 obtain ⟨A0, c0, hb, hg, hr0⟩ := h
 exact Kd.Q_ne ho hb ht
theorem IsS68.apartS {w0 W : World} {g : Nat} {f0 : List Int} {f1 : Int} {f2 : Int} {α : Type} {d : Kd α} {e : Nat} {base : Nat} {ok : Nat → Prop} {v : Value} {xs : List α} (h : IsS68 w0 W g f0 f1 f2) (ho : d.S e W base ok v xs) (ht : ∀ q, q ∈ e :: d.E → q ≠ 68) : d.S e W base (fun k => ok k ∧ k ≠ g) v xs := by
 obtain ⟨A0, c0, hb, hg, hr0⟩ := h
 exact Kd.S_types ho hb ht
theorem IsS68.own_neS {w0 W : World} {g : Nat} {f0 : List Int} {f1 : Int} {f2 : Int} {α : Type} {d : Kd α} {e : Nat} {base : Nat} {ok : Nat → Prop} {v : Value} {xs : List α} (h : IsS68 w0 W g f0 f1 f2) (ho : d.S e W base ok v xs) (ht : e ≠ 68) : some g ≠ v.ownBlock := by
 obtain ⟨A0, c0, hb, hg, hr0⟩ := h
 exact Kd.S_ne ho hb ht
theorem IsS68.lt {w0 W : World} {g : Nat} {f0 : List Int} {f1 : Int} {f2 : Int} (h : IsS68 w0 W g f0 f1 f2) : g < W.heap.size := by
 obtain ⟨A0, c0, hb, hg, hr0⟩ := h
 exact blk_lt hb
theorem IsS68.ge {w0 W : World} {g : Nat} {f0 : List Int} {f1 : Int} {f2 : Int} (h : IsS68 w0 W g f0 f1 f2) : w0.heap.size ≤ g := by
 obtain ⟨A0, c0, hb, hg, hr0⟩ := h
 exact hg
theorem IsS68.ne_blk {w0 W : World} {g : Nat} {f0 : List Int} {f1 : Int} {f2 : Int} {a : Nat} {cs : Array Value} {t : TypeId} {fr : Nat × Nat} (h : IsS68 w0 W g f0 f1 f2) (hb2 : W.heap[a]? = some (.cells cs t fr)) (ht : t ≠ 68) : g ≠ a := by
 obtain ⟨A0, c0, hb, hg, hr0⟩ := h
 rintro rfl
 rw [hb] at hb2
 injection hb2 with hb2
 injection hb2 with _ ht2
 exact ht ht2.symm
theorem IsS68.far {w0 W : World} {g : Nat} {f0 : List Int} {f1 : Int} {f2 : Int} {p : Addr} (h : IsS68 w0 W g f0 f1 f2) (hne : g ≠ p.block) (u : Value) : IsS68 w0 (W.setCell p u) g f0 f1 f2 := by
 obtain ⟨A0, c0, hb, hg, hr0⟩ := h
 exact ⟨A0, c0, blk_far hb hne u, hg, hr0⟩
theorem cellS68_0 {W : World} {g : Nat} {A0 : Option Addr} {c0 : Nat} {f0 : List Int} {f1 : Int} {f2 : Int} (h : W.heap[g]? = some (.cells #[.slice A0 f0.length c0, .int .i64 f1, .int .u64 f2] 68 (0, 0))) : W.cell? ⟨g, 0, none⟩ = some (.slice A0 f0.length c0) := (blk_cell h 0).trans rfl
theorem cellS68_1 {W : World} {g : Nat} {A0 : Option Addr} {c0 : Nat} {f0 : List Int} {f1 : Int} {f2 : Int} (h : W.heap[g]? = some (.cells #[.slice A0 f0.length c0, .int .i64 f1, .int .u64 f2] 68 (0, 0))) : W.cell? ⟨g, 1, none⟩ = some (.int .i64 f1) := (blk_cell h 1).trans rfl
theorem IsS68.set_1 {w0 W : World} {g : Nat} {f0 : List Int} {f1 : Int} {f2 : Int} (h : IsS68 w0 W g f0 f1 f2) (x : Int) : IsS68 w0 (W.setCell ⟨g, 1, none⟩ (.int .i64 x)) g f0 x f2 := by
 obtain ⟨A0, c0, hb, hg, hr0⟩ := h
 exact ⟨A0, c0, by simpa using blk_set hb 1 (.int .i64 x), hg, hr0⟩
theorem cellS68_2 {W : World} {g : Nat} {A0 : Option Addr} {c0 : Nat} {f0 : List Int} {f1 : Int} {f2 : Int} (h : W.heap[g]? = some (.cells #[.slice A0 f0.length c0, .int .i64 f1, .int .u64 f2] 68 (0, 0))) : W.cell? ⟨g, 2, none⟩ = some (.int .u64 f2) := (blk_cell h 2).trans rfl
theorem IsS68.set_2 {w0 W : World} {g : Nat} {f0 : List Int} {f1 : Int} {f2 : Int} (h : IsS68 w0 W g f0 f1 f2) (x : Int) : IsS68 w0 (W.setCell ⟨g, 2, none⟩ (.int .u64 x)) g f0 f1 x := by
 obtain ⟨A0, c0, hb, hg, hr0⟩ := h
 exact ⟨A0, c0, by simpa using blk_set hb 2 (.int .u64 x), hg, hr0⟩
theorem IsS68.new (w0 W : World) (A0 : Option Addr) (c0 : Nat) (f0 : List Int) (f1 : Int) (f2 : Int) (hB : Below w0.heap.size w0 W) (hr0 : Kd.C (Kd.int .u8) w0 A0 f0.length f0) : IsS68 w0 (W.alloc (.cells #[.slice A0 f0.length c0, .int .i64 f1, .int .u64 f2] 68)) W.heap.size f0 f1 f2 := ⟨A0, c0, by simpa using heap_alloc_new W _, hB.size, hr0⟩

/-! ### spec_l1Cur_next: function 160 -/
def spec_l1Cur_next.f (s0_0 : List Int) (s0_1 : Int) (s0_2 : Int) : Option (Int × Int × Int) := if s0_1 < (s0_0.length : Int) then (if 0 ≤ s0_1 then (if (wrap64 (s0_1 + 1)) ≤ (s0_0.length : Int) then (some (wrap64 (rd s0_0 s0_1), wrap64 (s0_1 + 1), IntKind.u64.wrap ((IntKind.u64.wrap ((IntKind.u64.wrap (s0_2 * 6364136223846793005)) + (IntKind.u64.wrap (wrap64 (rd s0_0 s0_1))))) + 1442695040888963407))) else (some (wrap64 (Go.bits .and .u64 ((IntKind.u64.wrap ((IntKind.u64.wrap ((IntKind.u64.wrap (s0_2 * 6364136223846793005)) + (IntKind.u64.wrap (wrap64 (rd s0_0 s0_1))))) + 1442695040888963407)) / 1099511627776) 255), wrap64 (s0_1 + 1), IntKind.u64.wrap ((IntKind.u64.wrap ((IntKind.u64.wrap (s0_2 * 6364136223846793005)) + (IntKind.u64.wrap (wrap64 (rd s0_0 s0_1))))) + 1442695040888963407)))) else (none)) else (if (wrap64 (s0_1 + 1)) ≤ (s0_0.length : Int) then (some (0, wrap64 (s0_1 + 1), IntKind.u64.wrap ((IntKind.u64.wrap ((IntKind.u64.wrap (s0_2 * 6364136223846793005)) + 0)) + 1442695040888963407))) else (some (wrap64 (Go.bits .and .u64 ((IntKind.u64.wrap ((IntKind.u64.wrap ((IntKind.u64.wrap (s0_2 * 6364136223846793005)) + 0)) + 1442695040888963407)) / 1099511627776) 255), wrap64 (s0_1 + 1), IntKind.u64.wrap ((IntKind.u64.wrap ((IntKind.u64.wrap (s0_2 * 6364136223846793005)) + 0)) + 1442695040888963407))))
set_option maxHeartbeats 8000000 in
set_option maxRecDepth 100000 in
theorem spec_l1Cur_next.calls (g : Nat) (s0_0 : List Int) (s0_1 : Int) (s0_2 : Int) (r1 : Int) (r2 : Int) (r3 : Int) (w0 w : World) (hI : IsS68 w0 w g s0_0 s0_1 s0_2) (hB : Below w0.heap.size w0 w) (h : spec_l1Cur_next.f s0_0 s0_1 s0_2 = some (r1, r2, r3)) :
  Calls Try.prog 160 #[.pointer (some ⟨g, 0, none⟩)] w fun e w' => e = .returned (.int .i64 r1) ∧ IsS68 w0 w' g s0_0 r2 r3 ∧ Below w0.heap.size w0 w' ∧ KeepBut w w' g none := by
 have HI0 := Aside0.mk hI
 have HK := Aside0.mk (KeepBut.refl w g none)
 have HL := Aside0.mk hB.size
 clear hI
 have HW0 := Aside0.mk hB.size
 have HB := Aside0.mk hB
 clear hB
 have H : (if s0_1 < (s0_0.length : Int) then (if 0 ≤ s0_1 then (if (wrap64 (s0_1 + 1)) ≤ (s0_0.length : Int) then (some (wrap64 (rd s0_0 s0_1), wrap64 (s0_1 + 1), IntKind.u64.wrap ((IntKind.u64.wrap ((IntKind.u64.wrap (s0_2 * 6364136223846793005)) + (IntKind.u64.wrap (wrap64 (rd s0_0 s0_1))))) + 1442695040888963407))) else (some (wrap64 (Go.bits .and .u64 ((IntKind.u64.wrap ((IntKind.u64.wrap ((IntKind.u64.wrap (s0_2 * 6364136223846793005)) + (IntKind.u64.wrap (wrap64 (rd s0_0 s0_1))))) + 1442695040888963407)) / 1099511627776) 255), wrap64 (s0_1 + 1), IntKind.u64.wrap ((IntKind.u64.wrap ((IntKind.u64.wrap (s0_2 * 6364136223846793005)) + (IntKind.u64.wrap (wrap64 (rd s0_0 s0_1))))) + 1442695040888963407)))) else (none)) else (if (wrap64 (s0_1 + 1)) ≤ (s0_0.length : Int) then (some (0, wrap64 (s0_1 + 1), IntKind.u64.wrap ((IntKind.u64.wrap ((IntKind.u64.wrap (s0_2 * 6364136223846793005)) + 0)) + 1442695040888963407))) else (some (wrap64 (Go.bits .and .u64 ((IntKind.u64.wrap ((IntKind.u64.wrap ((IntKind.u64.wrap (s0_2 * 6364136223846793005)) + 0)) + 1442695040888963407)) / 1099511627776) 255), wrap64 (s0_1 + 1), IntKind.u64.wrap ((IntKind.u64.wrap ((IntKind.u64.wrap (s0_2 * 6364136223846793005)) + 0)) + 1442695040888963407))))) = some (r1, r2, r3) := h
 clear h
 by_cases c2 : s0_1 < (s0_0.length : Int)
 ·rw [if_pos c2] at H
  have c2b0 : decide (s0_1 < (s0_0.length : Int)) = true := decide_eq_true c2
  clear c2
  by_cases c3 : 0 ≤ s0_1
  ·rw [if_pos c3] at H
   have c3b0 : decide (0 ≤ s0_1) = true := decide_eq_true c3
   clear c3
   by_cases c4 : (wrap64 (s0_1 + 1)) ≤ (s0_0.length : Int)
   ·rw [if_pos c4] at H
    have c4b0 : decide ((wrap64 (s0_1 + 1)) ≤ (s0_0.length : Int)) = true := decide_eq_true c4
    clear c4
    simp only [Option.some.injEq, Prod.mk.injEq] at H
    obtain ⟨rfl, rfl, rfl⟩ := H
    obtain ⟨ASz5_0, cSz5_0, HGz5, hgz5, HSz5_0⟩ := HI0.out
    have hcz5_0 := cellS68_0 HGz5
    have hcz5_1 := cellS68_1 HGz5
    have hcz5_2 := cellS68_2 HGz5
    have hfz5_1 := blk_frozen HGz5 1
    have hfz5_2 := blk_frozen HGz5 2
    clear HGz5 hgz5
    have p201 : 0 ≤ (s0_1 : Int) := of_decide_eq_true (by first | (with_reducible assumption) | assumption)
    have q201 : s0_1 < (s0_0.length : Int) := of_decide_eq_true (by first | (with_reducible assumption) | assumption)
    obtain ⟨ad201, e201, hx201_0⟩ := Kd.at_int HSz5_0 s0_1 p201 q201
    cases e201
    replace hx201_0 := pw_cell_below HB.out hx201_0
    replace p201 := eq_true p201
    replace q201 := eq_true q201
    go_enter Try.func160, Try.ntmps160
    go_wp2
    repeat (go_quiet (fail); try go_wp2)
    go_ret
    exact ⟨by first | rfl | (simp [errW_none, errW_some] <;> rfl) | (simp [*, errW_none, errW_some] <;> rfl), by (try simp only [Int.add_zero]); repeat (first | (with_reducible first | exact HI0.out | apply IsS68.alloc | apply IsS68.drewN | apply IsS68.drew | apply IsS68.set_1 | apply IsS68.set_2) | exact HI0.out), by repeat (first | (with_reducible first | exact HB.out | apply below_alloc | apply pw_below_drewN | apply below_drew1 | refine below_set ?_ (IsS68.ge HI0.out)) | exact HB.out), by repeat (first | (with_reducible first | exact HK.out | apply KeepBut.set_ | apply keep_drewN | apply keep_drew | apply keep_alloc) | exact HK.out)⟩
   ·rw [if_neg c4] at H
    have c4b0 : decide ((wrap64 (s0_1 + 1)) ≤ (s0_0.length : Int)) = false := decide_eq_false c4
    clear c4
    simp only [Option.some.injEq, Prod.mk.injEq] at H
    obtain ⟨rfl, rfl, rfl⟩ := H
    obtain ⟨ASz6_0, cSz6_0, HGz6, hgz6, HSz6_0⟩ := HI0.out
    have hcz6_0 := cellS68_0 HGz6
    have hcz6_1 := cellS68_1 HGz6
    have hcz6_2 := cellS68_2 HGz6
    have hfz6_1 := blk_frozen HGz6 1
    have hfz6_2 := blk_frozen HGz6 2
    clear HGz6 hgz6
    have p201 : 0 ≤ (s0_1 : Int) := of_decide_eq_true (by first | (with_reducible assumption) | assumption)
    have q201 : s0_1 < (s0_0.length : Int) := of_decide_eq_true (by first | (with_reducible assumption) | assumption)
    obtain ⟨ad201, e201, hx201_0⟩ := Kd.at_int HSz6_0 s0_1 p201 q201
    cases e201
    replace hx201_0 := pw_cell_below HB.out hx201_0
    replace p201 := eq_true p201
    replace q201 := eq_true q201
    go_enter Try.func160, Try.ntmps160
    go_wp2
    repeat (go_quiet (fail); try go_wp2)
    go_ret
    exact ⟨by first | rfl | (simp [errW_none, errW_some] <;> rfl) | (simp [*, errW_none, errW_some] <;> rfl), by (try simp only [Int.add_zero]); repeat (first | (with_reducible first | exact HI0.out | apply IsS68.alloc | apply IsS68.drewN | apply IsS68.drew | apply IsS68.set_1 | apply IsS68.set_2) | exact HI0.out), by repeat (first | (with_reducible first | exact HB.out | apply below_alloc | apply pw_below_drewN | apply below_drew1 | refine below_set ?_ (IsS68.ge HI0.out)) | exact HB.out), by repeat (first | (with_reducible first | exact HK.out | apply KeepBut.set_ | apply keep_drewN | apply keep_drew | apply keep_alloc) | exact HK.out)⟩
  ·rw [if_neg c3] at H
   exact absurd H (by simp)
 ·rw [if_neg c2] at H
  have c2b0 : decide (s0_1 < (s0_0.length : Int)) = false := decide_eq_false c2
  clear c2
  by_cases c7 : (wrap64 (s0_1 + 1)) ≤ (s0_0.length : Int)
  ·rw [if_pos c7] at H
   have c7b0 : decide ((wrap64 (s0_1 + 1)) ≤ (s0_0.length : Int)) = true := decide_eq_true c7
   clear c7
   simp only [Option.some.injEq, Prod.mk.injEq] at H
   obtain ⟨rfl, rfl, rfl⟩ := H
   obtain ⟨ASz8_0, cSz8_0, HGz8, hgz8, HSz8_0⟩ := HI0.out
   have hcz8_0 := cellS68_0 HGz8
   have hcz8_1 := cellS68_1 HGz8
   have hcz8_2 := cellS68_2 HGz8
   have hfz8_1 := blk_frozen HGz8 1
   have hfz8_2 := blk_frozen HGz8 2
   clear HGz8 hgz8
   go_enter Try.func160, Try.ntmps160
   go_wp2
   repeat (go_quiet (fail); try go_wp2)
   go_ret
   exact ⟨by first | rfl | (simp [errW_none, errW_some] <;> rfl) | (simp [*, errW_none, errW_some] <;> rfl), by (try simp only [Int.add_zero]); repeat (first | (with_reducible first | exact HI0.out | apply IsS68.alloc | apply IsS68.drewN | apply IsS68.drew | apply IsS68.set_1 | apply IsS68.set_2) | exact HI0.out), by repeat (first | (with_reducible first | exact HB.out | apply below_alloc | apply pw_below_drewN | apply below_drew1 | refine below_set ?_ (IsS68.ge HI0.out)) | exact HB.out), by repeat (first | (with_reducible first | exact HK.out | apply KeepBut.set_ | apply keep_drewN | apply keep_drew | apply keep_alloc) | exact HK.out)⟩
  ·rw [if_neg c7] at H
   have c7b0 : decide ((wrap64 (s0_1 + 1)) ≤ (s0_0.length : Int)) = false := decide_eq_false c7
   clear c7
   simp only [Option.some.injEq, Prod.mk.injEq] at H
   obtain ⟨rfl, rfl, rfl⟩ := H
   obtain ⟨ASz9_0, cSz9_0, HGz9, hgz9, HSz9_0⟩ := HI0.out
   have hcz9_0 := cellS68_0 HGz9
   have hcz9_1 := cellS68_1 HGz9
   have hcz9_2 := cellS68_2 HGz9
   have hfz9_1 := blk_frozen HGz9 1
   have hfz9_2 := blk_frozen HGz9 2
   clear HGz9 hgz9
   go_enter Try.func160, Try.ntmps160
   go_wp2
   repeat (go_quiet (fail); try go_wp2)
   go_ret
   exact ⟨by first | rfl | (simp [errW_none, errW_some] <;> rfl) | (simp [*, errW_none, errW_some] <;> rfl), by (try simp only [Int.add_zero]); repeat (first | (with_reducible first | exact HI0.out | apply IsS68.alloc | apply IsS68.drewN | apply IsS68.drew | apply IsS68.set_1 | apply IsS68.set_2) | exact HI0.out), by repeat (first | (with_reducible first | exact HB.out | apply below_alloc | apply pw_below_drewN | apply below_drew1 | refine below_set ?_ (IsS68.ge HI0.out)) | exact HB.out), by repeat (first | (with_reducible first | exact HK.out | apply KeepBut.set_ | apply keep_drewN | apply keep_drew | apply keep_alloc) | exact HK.out)⟩

/-! ### spec_l1Cur_pick: function 111 -/
def spec_l1Cur_pick.f (s0_0 : List Int) (s0_1 : Int) (s0_2 : Int) (a1 : Int) : Option (Int × Int × Int) := if a1 ≤ 1 then (some (0, s0_1, s0_2)) else ((spec_l1Cur_next.f s0_0 s0_1 s0_2).bind fun bt202 => (if a1 > 200 then ((spec_l1Cur_next.f s0_0 bt202.2.1 bt202.2.2).bind fun bt205 => (if a1 = 0 then (none) else (some (Int.tmod (wrap64 ((wrap64 (bt202.1 * 256)) + bt205.1)) a1, bt205.2.1, bt205.2.2)))) else (if a1 = 0 then (none) else (some (Int.tmod bt202.1 a1, bt202.2.1, bt202.2.2)))))
set_option maxHeartbeats 8000000 in
set_option maxRecDepth 100000 in
theorem spec_l1Cur_pick.calls (g : Nat) (s0_0 : List Int) (s0_1 : Int) (s0_2 : Int) (a1 : Int) (r1 : Int) (r2 : Int) (r3 : Int) (w0 w : World) (hI : IsS68 w0 w g s0_0 s0_1 s0_2) (hB : Below w0.heap.size w0 w) (h : spec_l1Cur_pick.f s0_0 s0_1 s0_2 a1 = some (r1, r2, r3)) :
  Calls Try.prog 111 #[.pointer (some ⟨g, 0, none⟩), .int .i64 a1] w fun e w' => e = .returned (.int .i64 r1) ∧ IsS68 w0 w' g s0_0 r2 r3 ∧ Below w0.heap.size w0 w' ∧ KeepBut w w' g none := by
 have HI0 := Aside0.mk hI
 have HK := Aside0.mk (KeepBut.refl w g none)
 have HL := Aside0.mk hB.size
 clear hI
 have HW0 := Aside0.mk hB.size
 have HB := Aside0.mk hB
 clear hB
 have H : (if a1 ≤ 1 then (some (0, s0_1, s0_2)) else ((spec_l1Cur_next.f s0_0 s0_1 s0_2).bind fun bt202 => (if a1 > 200 then ((spec_l1Cur_next.f s0_0 bt202.2.1 bt202.2.2).bind fun bt205 => (if a1 = 0 then (none) else (some (Int.tmod (wrap64 ((wrap64 (bt202.1 * 256)) + bt205.1)) a1, bt205.2.1, bt205.2.2)))) else (if a1 = 0 then (none) else (some (Int.tmod bt202.1 a1, bt202.2.1, bt202.2.2)))))) = some (r1, r2, r3) := h
 clear h
 by_cases c3 : a1 ≤ 1
 ·rw [if_pos c3] at H
  have c3b0 : decide (a1 ≤ 1) = true := decide_eq_true c3
  clear c3
  simp only [Option.some.injEq, Prod.mk.injEq] at H
  obtain ⟨rfl, rfl, rfl⟩ := H
  go_enter Try.func111, Try.ntmps111
  go_wp2
  go_ret
  exact ⟨by first | rfl | (simp [errW_none, errW_some] <;> rfl) | (simp [*, errW_none, errW_some] <;> rfl), by (try simp only [Int.add_zero]); repeat (first | (with_reducible first | exact HI0.out | apply IsS68.alloc | apply IsS68.drewN | apply IsS68.drew | apply IsS68.set_1 | apply IsS68.set_2) | exact HI0.out), by repeat (first | (with_reducible first | exact HB.out | apply below_alloc | apply pw_below_drewN | apply below_drew1 | refine below_set ?_ (IsS68.ge HI0.out)) | exact HB.out), by repeat (first | (with_reducible first | exact HK.out | apply KeepBut.set_ | apply keep_drewN | apply keep_drew | apply keep_alloc) | exact HK.out)⟩
 ·rw [if_neg c3] at H
  have c3b0 : decide (a1 ≤ 1) = false := decide_eq_false c3
  clear c3
  replace H := Option.bind_eq_some_iff.mp H
  obtain ⟨⟨t202, t203, t204⟩, A40, H⟩ := H
  replace H : (if a1 > 200 then ((spec_l1Cur_next.f s0_0 t203 t204).bind fun bt205 => (if a1 = 0 then (none) else (some (Int.tmod (wrap64 ((wrap64 (t202 * 256)) + bt205.1)) a1, bt205.2.1, bt205.2.2)))) else (if a1 = 0 then (none) else (some (Int.tmod t202 a1, t203, t204)))) = some (r1, r2, r3) := H
  have A4 := Aside0.mk A40
  clear A40
  by_cases c5 : a1 > 200
  ·rw [if_pos c5] at H
   have c5b0 : decide (200 < a1) = true := decide_eq_true c5
   clear c5
   replace H := Option.bind_eq_some_iff.mp H
   obtain ⟨⟨t205, t206, t207⟩, A60, H⟩ := H
   replace H : (if a1 = 0 then (none) else (some (Int.tmod (wrap64 ((wrap64 (t202 * 256)) + t205)) a1, t206, t207))) = some (r1, r2, r3) := H
   have A6 := Aside0.mk A60
   clear A60
   by_cases c7 : a1 = 0
   ·rw [if_pos c7] at H
    exact absurd H (by simp)
   ·rw [if_neg c7] at H
    have c7b0 : (a1 == 0) = false := beq_eq_false_iff_ne.mpr c7
    have c7b1 : (a1 != 0) = true := bne_iff_ne.mpr c7
    simp only [Option.some.injEq, Prod.mk.injEq] at H
    obtain ⟨rfl, rfl, rfl⟩ := H
    go_enter Try.func111, Try.ntmps111
    go_wp2_with (first | ((with_reducible refine gate_callee (f := 160) rfl ?_); refine goesL_ (some 9) rfl rfl Try.func160 (by kernel_rfl) rfl #[.pointer (some ⟨g, 0, none⟩)] rfl (by (try simp only [List.map_toArray, List.map_cons, List.map_nil]); first | done | rfl | (simp only [List.length_drop, List.length_take]; rfl)) ?_; (with_reducible refine (spec_l1Cur_next.calls g s0_0 s0_1 s0_2 t202 t203 t204 w0 _ ?side1 ?side2 A4.out).mono ?_); (case side1 => repeat (first | (with_reducible first | exact HI0.out | apply IsS68.alloc | apply IsS68.drewN | apply IsS68.drew | apply IsS68.set_1 | apply IsS68.set_2) | exact HI0.out)); (case side2 => repeat (first | (with_reducible first | exact HB.out | apply below_alloc | apply pw_below_drewN | apply below_drew1 | refine below_set ?_ (IsS68.ge HI0.out)) | exact HB.out)); rintro e w8 ⟨rfl, hi, hb, hk⟩; refine ⟨_, rfl, ?_⟩; have n0_ := Aside0.mk (KeepBut.trans (by repeat (first | (with_reducible first | exact HK.out | apply KeepBut.set_ | apply keep_drewN | apply keep_drew | apply keep_alloc) | exact HK.out)) hk (.inl rfl)); have n1_ := Aside0.mk (hb); have n2_ := Aside0.mk (hi); clear HK; clear HB; clear HI0; have HK := n0_; have HB := n1_; have HI0 := n2_; clear n0_ n1_ n2_; (try clear hb); (try clear hb2); (try clear hk); (try clear hi)) | ((with_reducible refine gate_callee (f := 160) rfl ?_); refine goesL_ (some 15) rfl rfl Try.func160 (by kernel_rfl) rfl #[.pointer (some ⟨g, 0, none⟩)] rfl (by (try simp only [List.map_toArray, List.map_cons, List.map_nil]); first | done | rfl | (simp only [List.length_drop, List.length_take]; rfl)) ?_; (with_reducible refine (spec_l1Cur_next.calls g s0_0 t203 t204 t205 t206 t207 w0 _ ?side1 ?side2 A6.out).mono ?_); (case side1 => repeat (first | (with_reducible first | exact HI0.out | apply IsS68.alloc | apply IsS68.drewN | apply IsS68.drew | apply IsS68.set_1 | apply IsS68.set_2) | exact HI0.out)); (case side2 => repeat (first | (with_reducible first | exact HB.out | apply below_alloc | apply pw_below_drewN | apply below_drew1 | refine below_set ?_ (IsS68.ge HI0.out)) | exact HB.out)); rintro e w9 ⟨rfl, hi, hb, hk⟩; refine ⟨_, rfl, ?_⟩; have n0_ := Aside0.mk (KeepBut.trans (by repeat (first | (with_reducible first | exact HK.out | apply KeepBut.set_ | apply keep_drewN | apply keep_drew | apply keep_alloc) | exact HK.out)) hk (.inl rfl)); have n1_ := Aside0.mk (hb); have n2_ := Aside0.mk (hi); clear HK; clear HB; clear HI0; have HK := n0_; have HB := n1_; have HI0 := n2_; clear n0_ n1_ n2_; (try clear hb); (try clear hb2); (try clear hk); (try clear hi)))
    go_ret
    exact ⟨by first | rfl | (simp [errW_none, errW_some] <;> rfl) | (simp [*, errW_none, errW_some] <;> rfl), by (try simp only [Int.add_zero]); repeat (first | (with_reducible first | exact HI0.out | apply IsS68.alloc | apply IsS68.drewN | apply IsS68.drew | apply IsS68.set_1 | apply IsS68.set_2) | exact HI0.out), by repeat (first | (with_reducible first | exact HB.out | apply below_alloc | apply pw_below_drewN | apply below_drew1 | refine below_set ?_ (IsS68.ge HI0.out)) | exact HB.out), by repeat (first | (with_reducible first | exact HK.out | apply KeepBut.set_ | apply keep_drewN | apply keep_drew | apply keep_alloc) | exact HK.out)⟩
  ·rw [if_neg c5] at H
   have c5b0 : decide (200 < a1) = false := decide_eq_false c5
   clear c5
   by_cases c10 : a1 = 0
   ·rw [if_pos c10] at H
    exact absurd H (by simp)
   ·rw [if_neg c10] at H
    have c10b0 : (a1 == 0) = false := beq_eq_false_iff_ne.mpr c10
    have c10b1 : (a1 != 0) = true := bne_iff_ne.mpr c10
    simp only [Option.some.injEq, Prod.mk.injEq] at H
    obtain ⟨rfl, rfl, rfl⟩ := H
    go_enter Try.func111, Try.ntmps111
    go_wp2_with (first | ((with_reducible refine gate_callee (f := 160) rfl ?_); refine goesL_ (some 9) rfl rfl Try.func160 (by kernel_rfl) rfl #[.pointer (some ⟨g, 0, none⟩)] rfl (by (try simp only [List.map_toArray, List.map_cons, List.map_nil]); first | done | rfl | (simp only [List.length_drop, List.length_take]; rfl)) ?_; (with_reducible refine (spec_l1Cur_next.calls g s0_0 s0_1 s0_2 t202 t203 t204 w0 _ ?side1 ?side2 A4.out).mono ?_); (case side1 => repeat (first | (with_reducible first | exact HI0.out | apply IsS68.alloc | apply IsS68.drewN | apply IsS68.drew | apply IsS68.set_1 | apply IsS68.set_2) | exact HI0.out)); (case side2 => repeat (first | (with_reducible first | exact HB.out | apply below_alloc | apply pw_below_drewN | apply below_drew1 | refine below_set ?_ (IsS68.ge HI0.out)) | exact HB.out)); rintro e w11 ⟨rfl, hi, hb, hk⟩; refine ⟨_, rfl, ?_⟩; have n0_ := Aside0.mk (KeepBut.trans (by repeat (first | (with_reducible first | exact HK.out | apply KeepBut.set_ | apply keep_drewN | apply keep_drew | apply keep_alloc) | exact HK.out)) hk (.inl rfl)); have n1_ := Aside0.mk (hb); have n2_ := Aside0.mk (hi); clear HK; clear HB; clear HI0; have HK := n0_; have HB := n1_; have HI0 := n2_; clear n0_ n1_ n2_; (try clear hb); (try clear hb2); (try clear hk); (try clear hi)))
    go_ret
    exact ⟨by first | rfl | (simp [errW_none, errW_some] <;> rfl) | (simp [*, errW_none, errW_some] <;> rfl), by (try simp only [Int.add_zero]); repeat (first | (with_reducible first | exact HI0.out | apply IsS68.alloc | apply IsS68.drewN | apply IsS68.drew | apply IsS68.set_1 | apply IsS68.set_2) | exact HI0.out), by repeat (first | (with_reducible first | exact HB.out | apply below_alloc | apply pw_below_drewN | apply below_drew1 | refine below_set ?_ (IsS68.ge HI0.out)) | exact HB.out), by repeat (first | (with_reducible first | exact HK.out | apply KeepBut.set_ | apply keep_drewN | apply keep_drew | apply keep_alloc) | exact HK.out)⟩

/-! ### spec_l1Cur_one: function 100 -/
def spec_l1Cur_one.f (s0_0 : List Int) (s0_1 : Int) (s0_2 : Int) (a1 : Int) : Option (Bool × Int × Int) := (spec_l1Cur_pick.f s0_0 s0_1 s0_2 a1).bind fun bt208 => (some ((bt208.1 == 0), bt208.2.1, bt208.2.2))
set_option maxHeartbeats 8000000 in
set_option maxRecDepth 100000 in
theorem spec_l1Cur_one.calls (g : Nat) (s0_0 : List Int) (s0_1 : Int) (s0_2 : Int) (a1 : Int) (r1 : Bool) (r2 : Int) (r3 : Int) (w0 w : World) (hI : IsS68 w0 w g s0_0 s0_1 s0_2) (hB : Below w0.heap.size w0 w) (h : spec_l1Cur_one.f s0_0 s0_1 s0_2 a1 = some (r1, r2, r3)) :
  Calls Try.prog 100 #[.pointer (some ⟨g, 0, none⟩), .int .i64 a1] w fun e w' => e = .returned (.bool r1) ∧ IsS68 w0 w' g s0_0 r2 r3 ∧ Below w0.heap.size w0 w' ∧ KeepBut w w' g none := by
 have HI0 := Aside0.mk hI
 have HK := Aside0.mk (KeepBut.refl w g none)
 have HL := Aside0.mk hB.size
 clear hI
 have HW0 := Aside0.mk hB.size
 have HB := Aside0.mk hB
 clear hB
 have H : ((spec_l1Cur_pick.f s0_0 s0_1 s0_2 a1).bind fun bt208 => (some ((bt208.1 == 0), bt208.2.1, bt208.2.2))) = some (r1, r2, r3) := h
 clear h
 replace H := Option.bind_eq_some_iff.mp H
 obtain ⟨⟨t208, t209, t210⟩, A30, H⟩ := H
 replace H : (some ((t208 == 0), t209, t210)) = some (r1, r2, r3) := H
 have A3 := Aside0.mk A30
 clear A30
 simp only [Option.some.injEq, Prod.mk.injEq] at H
 obtain ⟨rfl, rfl, rfl⟩ := H
 go_enter Try.func100, Try.ntmps100
 go_wp2_with (first | ((with_reducible refine gate_callee (f := 111) rfl ?_); refine goesL_ (some 7) rfl rfl Try.func111 (by kernel_rfl) rfl #[.pointer (some ⟨g, 0, none⟩), .int .i64 a1] rfl (by (try simp only [List.map_toArray, List.map_cons, List.map_nil]); first | done | rfl | (simp only [List.length_drop, List.length_take]; rfl)) ?_; (with_reducible refine (spec_l1Cur_pick.calls g s0_0 s0_1 s0_2 a1 t208 t209 t210 w0 _ ?side1 ?side2 A3.out).mono ?_); (case side1 => repeat (first | (with_reducible first | exact HI0.out | apply IsS68.alloc | apply IsS68.drewN | apply IsS68.drew | apply IsS68.set_1 | apply IsS68.set_2) | exact HI0.out)); (case side2 => repeat (first | (with_reducible first | exact HB.out | apply below_alloc | apply pw_below_drewN | apply below_drew1 | refine below_set ?_ (IsS68.ge HI0.out)) | exact HB.out)); rintro e w4 ⟨rfl, hi, hb, hk⟩; refine ⟨_, rfl, ?_⟩; have n0_ := Aside0.mk (KeepBut.trans (by repeat (first | (with_reducible first | exact HK.out | apply KeepBut.set_ | apply keep_drewN | apply keep_drew | apply keep_alloc) | exact HK.out)) hk (.inl rfl)); have n1_ := Aside0.mk (hb); have n2_ := Aside0.mk (hi); clear HK; clear HB; clear HI0; have HK := n0_; have HB := n1_; have HI0 := n2_; clear n0_ n1_ n2_; (try clear hb); (try clear hb2); (try clear hk); (try clear hi)))
 go_ret
 exact ⟨by first | rfl | (simp [errW_none, errW_some] <;> rfl) | (simp [*, errW_none, errW_some] <;> rfl), by (try simp only [Int.add_zero]); repeat (first | (with_reducible first | exact HI0.out | apply IsS68.alloc | apply IsS68.drewN | apply IsS68.drew | apply IsS68.set_1 | apply IsS68.set_2) | exact HI0.out), by repeat (first | (with_reducible first | exact HB.out | apply below_alloc | apply pw_below_drewN | apply below_drew1 | refine below_set ?_ (IsS68.ge HI0.out)) | exact HB.out), by repeat (first | (with_reducible first | exact HK.out | apply KeepBut.set_ | apply keep_drewN | apply keep_drew | apply keep_alloc) | exact HK.out)⟩

/-! ### spec_l1Cur_among: function 104 -/
def spec_l1Cur_among.f (s0_0 : List Int) (s0_1 : Int) (s0_2 : Int) (l1 : List Int) : Option (Int × Int × Int) := (spec_l1Cur_pick.f s0_0 s0_1 s0_2 (l1.length : Int)).bind fun bt211 => (if 0 ≤ bt211.1 then (if bt211.1 < (l1.length : Int) then (some (rd l1 bt211.1, bt211.2.1, bt211.2.2)) else (none)) else (none))
set_option maxHeartbeats 8000000 in
set_option maxRecDepth 100000 in
theorem spec_l1Cur_among.calls (g : Nat) (s0_0 : List Int) (s0_1 : Int) (s0_2 : Int) (A1 : Option Addr) (c1 : Nat) (l1 : List Int) (r1 : Int) (r2 : Int) (r3 : Int) (w0 w : World) (hI : IsS68 w0 w g s0_0 s0_1 s0_2) (hB : Below w0.heap.size w0 w) (hr1 : Kd.C (Kd.int .i64) w A1 l1.length l1) (hc1 : l1.length ≤ c1) (hf1 : ∀ ad, A1 = some ad → 0 < l1.length → ad.block ≠ g) (h : spec_l1Cur_among.f s0_0 s0_1 s0_2 l1 = some (r1, r2, r3)) :
  Calls Try.prog 104 #[.pointer (some ⟨g, 0, none⟩), .slice A1 l1.length c1] w fun e w' => e = .returned (.int .i64 r1) ∧ IsS68 w0 w' g s0_0 r2 r3 ∧ Below w0.heap.size w0 w' ∧ KeepBut w w' g none := by
 have HR1 := Aside0.mk hr1
 have HC1 := Aside0.mk hc1
 clear hr1 hc1
 have HI0 := Aside0.mk hI
 have HK := Aside0.mk (KeepBut.refl w g none)
 have HL := Aside0.mk hB.size
 clear hI
 have HW0 := Aside0.mk hB.size
 have HB := Aside0.mk hB
 clear hB
 have H : ((spec_l1Cur_pick.f s0_0 s0_1 s0_2 (l1.length : Int)).bind fun bt211 => (if 0 ≤ bt211.1 then (if bt211.1 < (l1.length : Int) then (some (rd l1 bt211.1, bt211.2.1, bt211.2.2)) else (none)) else (none))) = some (r1, r2, r3) := h
 clear h
 replace H := Option.bind_eq_some_iff.mp H
 obtain ⟨⟨t211, t212, t213⟩, A30, H⟩ := H
 replace H : (if 0 ≤ t211 then (if t211 < (l1.length : Int) then (some (rd l1 t211, t212, t213)) else (none)) else (none)) = some (r1, r2, r3) := H
 have A3 := Aside0.mk A30
 clear A30
 by_cases c4 : 0 ≤ t211
 ·rw [if_pos c4] at H
  have c4b0 : decide (0 ≤ t211) = true := decide_eq_true c4
  clear c4
  by_cases c5 : t211 < (l1.length : Int)
  ·rw [if_pos c5] at H
   have c5b0 : decide (t211 < (l1.length : Int)) = true := decide_eq_true c5
   clear c5
   simp only [Option.some.injEq, Prod.mk.injEq] at H
   obtain ⟨rfl, rfl, rfl⟩ := H
   go_enter Try.func104, Try.ntmps104
   go_wp2_with (first | ((with_reducible refine gate_callee (f := 111) rfl ?_); refine goesL_ (some 9) rfl rfl Try.func111 (by kernel_rfl) rfl #[.pointer (some ⟨g, 0, none⟩), .int .i64 (l1.length : Int)] rfl (by (try simp only [List.map_toArray, List.map_cons, List.map_nil]); first | done | rfl | (simp only [List.length_drop, List.length_take]; rfl)) ?_; (with_reducible refine (spec_l1Cur_pick.calls g s0_0 s0_1 s0_2 (l1.length : Int) t211 t212 t213 w0 _ ?side1 ?side2 A3.out).mono ?_); (case side1 => repeat (first | (with_reducible first | exact HI0.out | apply IsS68.alloc | apply IsS68.drewN | apply IsS68.drew | apply IsS68.set_1 | apply IsS68.set_2) | exact HI0.out)); (case side2 => repeat (first | (with_reducible first | exact HB.out | apply below_alloc | apply pw_below_drewN | apply below_drew1 | refine below_set ?_ (IsS68.ge HI0.out)) | exact HB.out)); rintro e w6 ⟨rfl, hi, hb, hk⟩; refine ⟨_, rfl, ?_⟩; have n0_ := Aside0.mk (KeepBut.trans (by repeat (first | (with_reducible first | exact HK.out | apply KeepBut.set_ | apply keep_drewN | apply keep_drew | apply keep_alloc) | exact HK.out)) hk (.inl rfl)); have n1_ := Aside0.mk (hb); have n2_ := Aside0.mk (hi); clear HK; clear HB; clear HI0; have HK := n0_; have HB := n1_; have HI0 := n2_; clear n0_ n1_ n2_; (try clear hb); (try clear hb2); (try clear hk); (try clear hi); have p214 : 0 ≤ (t211 : Int) := of_decide_eq_true (by first | (with_reducible assumption) | assumption); have q214 : t211 < (l1.length : Int) := of_decide_eq_true (by first | (with_reducible assumption) | assumption); obtain ⟨ad214, e214, hx214_0⟩ := Kd.at_int HR1.out t211 p214 q214; cases e214; replace hx214_0 := keep_cell HK.out hx214_0 (by first | (rw [add_block]; exact hf1 _ rfl (by omega)) | exact hf1 _ rfl (by omega) | exact hf1 ad214 rfl (by omega)); replace p214 := eq_true p214; replace q214 := eq_true q214))
   go_ret
   exact ⟨by first | rfl | (simp [errW_none, errW_some] <;> rfl) | (simp [*, errW_none, errW_some] <;> rfl), by (try simp only [Int.add_zero]); repeat (first | (with_reducible first | exact HI0.out | apply IsS68.alloc | apply IsS68.drewN | apply IsS68.drew | apply IsS68.set_1 | apply IsS68.set_2) | exact HI0.out), by repeat (first | (with_reducible first | exact HB.out | apply below_alloc | apply pw_below_drewN | apply below_drew1 | refine below_set ?_ (IsS68.ge HI0.out)) | exact HB.out), by repeat (first | (with_reducible first | exact HK.out | apply KeepBut.set_ | apply keep_drewN | apply keep_drew | apply keep_alloc) | exact HK.out)⟩
  ·rw [if_neg c5] at H
   exact absurd H (by simp)
 ·rw [if_neg c4] at H
  exact absurd H (by simp)

end Go.Proofs.Ytdiohjdfiambhaa.QFnOutcomesCounted
