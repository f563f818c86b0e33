/- Plain law on circles of places: a list of n favourites on a circle of n + 1 places leaves one place free, that place turns with the list, and the last place is free just where the list parks on a street of n places. -/
import Derived.Test.YtdiohjdfiambhaaMCircle
import Derived.Test.YtdiohjdfiambhaaMCrit
namespace Go.Proofs.Ytdiohjdfiambhaa.Math
open Go.RowKit
set_option linter.unusedVariables false
set_option linter.unusedSimpArgs false

theorem cland_land (out : List Int) (n : Int) (hn : n ∉ out) : ∀ (d : Nat) (x : Int), 0 ≤ x → x ≤ n → (n - x).toNat = d → cland out (n + 1) x = land out n x
  | 0, x, h0, h1, e => by
    have : x = n := by omega
    subst this
    rw [cland_stop _ _ _ hn, land_stop _ _ _ (by omega)]
  | d + 1, x, h0, h1, e => by
    by_cases hm : x ∈ out
    · rw [cland_go out (n + 1) n (by omega) (by omega) hn x h0 (by omega) hm, Int.emod_eq_of_lt (by omega) (by omega), land_go _ _ _ (by omega) hm]
      exact cland_land out n hn d (x + 1) (by omega) (by omega) (by omega)
    · rw [cland_stop _ _ _ hm, land_stop _ _ _ (fun h => hm h.2)]
theorem cland_street (out : List Int) (p : Int) : ∀ (d : Nat) (x : Int), 0 ≤ x → (p - x).toNat = d → land out p x < p → cland out p x = land out p x
  | 0, x, h0, e, hl => by
    have := land_ge out p x
    omega
  | d + 1, x, h0, e, hl => by
    by_cases hm : x ∈ out
    · have hg := land_ge out p x
      have hnot := land_notin out p x hl
      have e2 := land_go out p x (by omega) hm
      have hg2 := land_ge out p (x + 1)
      rw [cland_go out p (land out p x) (by omega) hl hnot x h0 (by omega) hm, Int.emod_eq_of_lt (by omega) (by omega), e2]
      exact cland_street out p d (x + 1) (by omega) (by omega) (by omega)
    · rw [cland_stop _ _ _ hm, land_stop _ _ _ (fun h => hm h.2)]
theorem cdrv_street (p : Int) : ∀ (l out r : List Int), (∀ x ∈ l, 0 ≤ x) → drv p out l = some r → cdrv p out l = r
  | [], out, r, _, h => by
    simp only [drv, Option.some.injEq] at h
    exact h
  | x :: l, out, r, hx, h => by
    simp only [drv] at h
    by_cases hl : land out p x < p
    · rw [if_pos hl] at h
      simp only [cdrv]
      rw [cland_street out p _ x (hx x List.mem_cons_self) rfl hl]
      exact cdrv_street p l _ r (fun y hy => hx y (List.mem_cons_of_mem _ hy)) h
    · rw [if_neg hl] at h
      cases h
theorem cdrv_keeps (p : Int) : ∀ (l out : List Int) (y : Int), y ∈ out → y ∈ cdrv p out l
  | [], _, _, h => h
  | x :: l, out, y, h => cdrv_keeps p l _ y (List.mem_append.mpr (.inl h))
theorem cdrv_top (n : Int) : ∀ (l out : List Int), (∀ x ∈ l, 0 ≤ x ∧ x ≤ n) → n ∉ cdrv (n + 1) out l → ∃ r, drv n out l = some r
  | [], out, _, _ => ⟨out, rfl⟩
  | x :: l, out, hx, h => by
    simp only [cdrv] at h
    have hx0 := hx x List.mem_cons_self
    have hm : n ∉ out := fun hc => h (cdrv_keeps _ l _ n (List.mem_append.mpr (.inl hc)))
    have e := cland_land out n hm _ x hx0.1 hx0.2 rfl
    have hr := cland_range out (n + 1) x hx0.1 (by omega)
    have hne : land out n x ≠ n := fun hc => h (cdrv_keeps _ l _ n (List.mem_append.mpr (.inr (by rw [e, hc]; simp))))
    rw [e] at h hr
    obtain ⟨r, hr2⟩ := cdrv_top n l _ (fun y hy => hx y (List.mem_cons_of_mem _ hy)) h
    exact ⟨r, by simp only [drv]; rw [if_pos (by omega)]; exact hr2⟩
theorem cdrv_over (n : Int) : ∀ (l out r : List Int), (∀ x ∈ l, 0 ≤ x) → n ∉ out → drv n out l = some r → cdrv (n + 1) out l = r ∧ n ∉ r
  | [], out, r, _, hn, h => by
    simp only [drv, Option.some.injEq] at h
    subst h
    exact ⟨rfl, hn⟩
  | x :: l, out, r, hx, hn, h => by
    simp only [drv] at h
    have hx0 := hx x List.mem_cons_self
    have hg := land_ge out n x
    by_cases hl : land out n x < n
    · rw [if_pos hl] at h
      simp only [cdrv]
      rw [cland_land out n hn _ x hx0 (by omega) rfl]
      refine cdrv_over n l _ r (fun y hy => hx y (List.mem_cons_of_mem _ hy)) (fun hm => ?_) h
      rcases List.mem_append.mp hm with hm | hm
      · exact hn hm
      · simp only [List.mem_singleton] at hm
        omega
    · rw [if_neg hl] at h
      cases h
theorem top_free (l : List Int) (n : Int) (h : ∀ x ∈ l, 0 ≤ x ∧ x ≤ n) : n ∉ cdrv (n + 1) [] l ↔ allPark l n = true := by
  unfold allPark
  constructor
  · intro hn
    obtain ⟨r, hr⟩ := cdrv_top n l [] h hn
    rw [hr]
    rfl
  · intro hs
    obtain ⟨r, hr⟩ := Option.isSome_iff_exists.mp hs
    have := cdrv_over n l [] r (fun x hx => (h x hx).1) (by simp) hr
    rw [this.1]
    exact this.2
/-- turned by k on a circle of p places -/
def sh (p k x : Int) : Int := (x + k) % p
theorem sh_range (p k x : Int) (hp : 0 < p) : 0 ≤ sh p k x ∧ sh p k x < p := ⟨Int.emod_nonneg _ (by omega), Int.emod_lt_of_pos _ hp⟩
theorem sh_sh (p k m x : Int) : sh p m (sh p k x) = sh p (k + m) x := by
  unfold sh
  rw [Int.emod_add_emod, Int.add_assoc]
theorem sh_zero (p x : Int) (h0 : 0 ≤ x) (h1 : x < p) : sh p 0 x = x := by
  unfold sh
  rw [Int.add_zero]
  exact Int.emod_eq_of_lt h0 h1
theorem sh_back (p k x : Int) (h0 : 0 ≤ x) (h1 : x < p) : sh p (-k) (sh p k x) = x := by
  rw [sh_sh, show k + -k = 0 by omega]
  exact sh_zero p x h0 h1
theorem sh_mem (p k : Int) (out : List Int) (ho : ∀ y ∈ out, 0 ≤ y ∧ y < p) (x : Int) (h0 : 0 ≤ x) (h1 : x < p) : sh p k x ∈ out.map (sh p k) ↔ x ∈ out := by
  constructor
  · intro h
    obtain ⟨y, hy, e⟩ := List.mem_map.mp h
    have hy2 := ho y hy
    have e2 := congrArg (sh p (-k)) e
    rw [sh_back p k y hy2.1 hy2.2, sh_back p k x h0 h1] at e2
    rw [← e2]
    exact hy
  · exact fun h => List.mem_map_of_mem h
theorem sh_step (p k x : Int) : (sh p k x + 1) % p = sh p k ((x + 1) % p) := by
  unfold sh
  rw [Int.emod_add_emod, Int.emod_add_emod]
  congr 1
  omega
theorem clandF_sh (p k : Int) (hp : 0 < p) (out : List Int) (ho : ∀ y ∈ out, 0 ≤ y ∧ y < p) : ∀ (d : Nat) (x : Int), 0 ≤ x → x < p → clandF (out.map (sh p k)) p d (sh p k x) = sh p k (clandF out p d x)
  | 0, _, _, _ => rfl
  | d + 1, x, h0, h1 => by
    simp only [clandF]
    by_cases hm : x ∈ out
    · rw [if_pos hm, if_pos ((sh_mem p k out ho x h0 h1).mpr hm), sh_step]
      have hr := mod_range p x hp
      exact clandF_sh p k hp out ho d _ hr.1 hr.2
    · rw [if_neg hm, if_neg (fun h => hm ((sh_mem p k out ho x h0 h1).mp h))]
theorem cdrv_sh (p k : Int) (hp : 0 < p) : ∀ (l out : List Int), (∀ x ∈ l, 0 ≤ x ∧ x < p) → (∀ y ∈ out, 0 ≤ y ∧ y < p) → cdrv p (out.map (sh p k)) (l.map (sh p k)) = (cdrv p out l).map (sh p k)
  | [], _, _, _ => rfl
  | x :: l, out, hx, ho => by
    have hx0 := hx x List.mem_cons_self
    have hr := cland_range out p x hx0.1 hx0.2
    have ih := cdrv_sh p k hp l (out ++ [cland out p x]) (fun y hy => hx y (List.mem_cons_of_mem _ hy)) (fun y hy => by
      rcases List.mem_append.mp hy with hy | hy
      · exact ho y hy
      · simp only [List.mem_singleton] at hy
        rw [hy]
        exact hr)
    simp only [List.map_cons, cdrv]
    rw [← ih, List.map_append]
    simp only [List.map_cons, List.map_nil]
    rw [show cland (out.map (sh p k)) p (sh p k x) = sh p k (cland out p x) from clandF_sh p k hp out ho _ x hx0.1 hx0.2]
theorem cdrv_in (p : Int) : ∀ (l out : List Int), (∀ x ∈ l, 0 ≤ x ∧ x < p) → (∀ y ∈ out, 0 ≤ y ∧ y < p) → ∀ y ∈ cdrv p out l, 0 ≤ y ∧ y < p
  | [], _, _, ho => ho
  | x :: l, out, hx, ho => by
    have hx0 := hx x List.mem_cons_self
    refine cdrv_in p l _ (fun y hy => hx y (List.mem_cons_of_mem _ hy)) (fun y hy => ?_)
    rcases List.mem_append.mp hy with hy | hy
    · exact ho y hy
    · simp only [List.mem_singleton] at hy
      rw [hy]
      exact cland_range out p x hx0.1 hx0.2
theorem cdrv_nodup (p : Int) : ∀ (l out : List Int), (∀ x ∈ l, 0 ≤ x ∧ x < p) → out.Nodup → ((out.length + l.length : Nat) : Int) ≤ p → (cdrv p out l).Nodup
  | [], _, _, h, _ => h
  | x :: l, out, hx, h, hl => by
    have hx0 := hx x List.mem_cons_self
    simp only [List.length_cons] at hl
    obtain ⟨y, y0, y1, hy⟩ := free_place out p (by omega) (by omega)
    have hf := cland_free out p y y0 y1 hy x hx0.1 hx0.2
    refine cdrv_nodup p l _ (fun z hz => hx z (List.mem_cons_of_mem _ hz)) ?_ (by simp; omega)
    rw [List.nodup_append]
    refine ⟨h, by simp, ?_⟩
    intro a ha b hb e
    simp only [List.mem_singleton] at hb
    rw [e, hb] at ha
    exact hf ha
/-- as many different numbers below p, one less: one place alone is free -/
theorem one_free (out : List Int) (p : Int) (hn : out.Nodup) (ho : ∀ y ∈ out, 0 ≤ y ∧ y < p) (hl : (out.length : Int) + 1 = p) (x y : Int) (x0 : 0 ≤ x) (x1 : x < p) (hx : x ∉ out) (y0 : 0 ≤ y) (y1 : y < p) (hy : y ∉ out) : x = y := by
  apply Classical.byContradiction
  intro hne
  have hN : (x :: y :: out).Nodup := by
    rw [List.nodup_cons, List.nodup_cons]
    refine ⟨?_, hy, hn⟩
    intro h
    rcases List.mem_cons.mp h with h | h
    · exact hne h
    · exact hx h
  have h1 := ge_nodup (x :: y :: out) p hN (fun z hz => by
    rcases List.mem_cons.mp hz with h | h
    · omega
    · rcases List.mem_cons.mp h with h | h
      · omega
      · exact (ho z h).2) p.toNat 0 (by omega)
  have h2 : ge (x :: y :: out) 0 = (x :: y :: out).length := by
    unfold ge
    rw [List.countP_eq_length]
    intro z hz
    rcases List.mem_cons.mp hz with h | h
    · exact decide_eq_true (by omega)
    · rcases List.mem_cons.mp h with h | h
      · exact decide_eq_true (by omega)
      · exact decide_eq_true (ho z h).1
  rw [h2] at h1
  simp only [List.length_cons] at h1
  omega
/-- the first place from 0 on that is not taken -/
def freeAt (l : List Int) : Int := land (cdrv ((l.length : Int) + 1) [] l) ((l.length : Int) + 1) 0
theorem land_all (out : List Int) (p : Int) : ∀ (d : Nat) (x : Int), (p - x).toNat = d → x ≤ p → land out p x ≤ p
  | 0, x, e, h => by
    rw [land_stop _ _ _ (by omega)]
    exact h
  | d + 1, x, e, h => by
    by_cases hm : x ∈ out
    · rw [land_go _ _ _ (by omega) hm]
      exact land_all out p d (x + 1) (by omega) (by omega)
    · rw [land_stop _ _ _ (fun h => hm h.2)]
      exact h
theorem freeAt_spec (l : List Int) (h : ∀ x ∈ l, 0 ≤ x ∧ x < (l.length : Int) + 1) : 0 ≤ freeAt l ∧ freeAt l < (l.length : Int) + 1 ∧ freeAt l ∉ cdrv ((l.length : Int) + 1) [] l := by
  have h0 := land_ge (cdrv ((l.length : Int) + 1) [] l) ((l.length : Int) + 1) 0
  have hlt : freeAt l < (l.length : Int) + 1 := by
    apply Classical.byContradiction
    intro hc
    obtain ⟨y, y0, y1, hy⟩ := free_place (cdrv ((l.length : Int) + 1) [] l) ((l.length : Int) + 1) (by omega) (by rw [cdrv_length]; simp; omega)
    exact hy (land_between (cdrv ((l.length : Int) + 1) [] l) ((l.length : Int) + 1) _ 0 rfl y y0 (by unfold freeAt at hc; omega))
  exact ⟨h0, hlt, land_notin _ _ _ hlt⟩
theorem freeAt_only (l : List Int) (h : ∀ x ∈ l, 0 ≤ x ∧ x < (l.length : Int) + 1) (y : Int) (y0 : 0 ≤ y) (y1 : y < (l.length : Int) + 1) : y ∉ cdrv ((l.length : Int) + 1) [] l ↔ y = freeAt l := by
  have hs := freeAt_spec l h
  constructor
  · intro hy
    exact one_free _ ((l.length : Int) + 1) (cdrv_nodup _ l [] h (by simp) (by simp; omega)) (cdrv_in _ l [] h (by simp)) (by rw [cdrv_length]; simp) y _ y0 y1 hy hs.1 hs.2.1 hs.2.2
  · intro e
    rw [e]
    exact hs.2.2
/-- the free place turns with the list -/
theorem freeAt_sh (l : List Int) (h : ∀ x ∈ l, 0 ≤ x ∧ x < (l.length : Int) + 1) (k : Int) : freeAt (l.map (sh ((l.length : Int) + 1) k)) = sh ((l.length : Int) + 1) k (freeAt l) := by
  have hs := freeAt_spec l h
  have hr := sh_range ((l.length : Int) + 1) k (freeAt l) (by omega)
  have hl : ((l.map (sh ((l.length : Int) + 1) k)).length : Int) = l.length := by simp
  have hx : ∀ x ∈ l.map (sh ((l.length : Int) + 1) k), 0 ≤ x ∧ x < ((l.map (sh ((l.length : Int) + 1) k)).length : Int) + 1 := by
    intro x hx
    obtain ⟨y, _, rfl⟩ := List.mem_map.mp hx
    rw [hl]
    exact sh_range _ _ _ (by omega)
  refine ((freeAt_only _ hx _ hr.1 (by rw [hl]; exact hr.2)).mp ?_).symm
  rw [hl]
  have e := cdrv_sh ((l.length : Int) + 1) k (by omega) l [] h (by simp)
  rw [List.map_nil] at e
  rw [e]
  exact fun hm => hs.2.2 ((sh_mem _ k _ (cdrv_in _ l [] h (by simp)) _ hs.1 hs.2.1).mp hm)
/-- a list is a parking function just where the last place stays free -/
theorem isPk_free (l : List Int) (h8 : l.length ≤ 8) (h : ∀ x ∈ l, 0 ≤ x ∧ x < (l.length : Int) + 1) : isPk l = true ↔ freeAt l = l.length := by
  have ht := top_free l l.length (fun x hx => by have := h x hx; omega)
  have ho := freeAt_only l h l.length (by omega) (by omega)
  constructor
  · intro hp
    unfold isPk at hp
    rw [Bool.and_eq_true] at hp
    exact (ho.mp (ht.mpr hp.2)).symm
  · intro e
    have hp := ht.mp (ho.mpr e.symm)
    unfold isPk
    rw [Bool.and_eq_true, Bool.and_eq_true, decide_eq_true_eq, List.all_eq_true]
    refine ⟨⟨h8, ?_⟩, hp⟩
    unfold allPark at hp
    obtain ⟨r, hr⟩ := Option.isSome_iff_exists.mp hp
    intro x hx
    have h1 := drv_lt _ l [] r hr x hx
    have h2 := h x hx
    rw [Bool.and_eq_true, decide_eq_true_eq, decide_eq_true_eq]
    omega
theorem ge_perm {l m : List Int} (h : l.Perm m) (j : Int) : ge l j = ge m j := h.countP_eq _
theorem isPk_perm {l m : List Int} (h : l.Perm m) : isPk l = isPk m := by
  have key : ∀ {l m : List Int}, l.Perm m → isPk l = true → isPk m = true := by
    intro l m h hp
    unfold isPk at hp ⊢
    rw [Bool.and_eq_true, Bool.and_eq_true, decide_eq_true_eq, List.all_eq_true] at hp ⊢
    have hx : ∀ x ∈ l, 0 ≤ x ∧ x < (l.length : Int) := fun x hx => by
      have := hp.1.2 x hx
      rw [Bool.and_eq_true, decide_eq_true_eq, decide_eq_true_eq] at this
      omega
    have hm : ∀ x ∈ m, 0 ≤ x ∧ x < (m.length : Int) := fun x hm => by
      have := hx x (h.mem_iff.mpr hm)
      rw [← h.length_eq]
      exact this
    refine ⟨⟨by rw [← h.length_eq]; exact hp.1.1, fun x hm2 => ?_⟩, ?_⟩
    · have := hm x hm2
      rw [Bool.and_eq_true, decide_eq_true_eq, decide_eq_true_eq]
      omega
    · refine (park_iff m m.length hm).mpr (fun j j0 j1 => ?_)
      have := (park_iff l l.length hx).mp hp.2 j j0 (by rw [h.length_eq]; exact j1)
      rw [ge_perm h, h.length_eq] at this
      exact this
  cases e : isPk l with
  | true => exact (key h e).symm
  | false =>
    cases e2 : isPk m with
    | false => rfl
    | true => rw [key h.symm e2] at e; cases e
theorem freeAt_perm {l m : List Int} (hp : l.Perm m) (h8 : l.length ≤ 8) (h : ∀ x ∈ l, 0 ≤ x ∧ x < (l.length : Int) + 1) : freeAt l = freeAt m := by
  have hlen := hp.length_eq
  have hm : ∀ x ∈ m, 0 ≤ x ∧ x < (m.length : Int) + 1 := fun x hx => by
    rw [← hlen]
    exact h x (hp.mem_iff.mpr hx)
  have hs := freeAt_spec l h
  have hs2 := freeAt_spec m hm
  -- both lists, turned so that the place that the first leaves free is the last
  have fin : ∀ q : List Int, (∀ x ∈ q, 0 ≤ x ∧ x < (q.length : Int) + 1) → ∀ k : Int, ∀ x ∈ q.map (sh ((q.length : Int) + 1) k), 0 ≤ x ∧ x < ((q.map (sh ((q.length : Int) + 1) k)).length : Int) + 1 := by
    intro q hq k x hx
    obtain ⟨y, _, rfl⟩ := List.mem_map.mp hx
    rw [List.length_map]
    exact sh_range _ _ _ (by omega)
  have e1 := freeAt_sh l h ((l.length : Int) - freeAt l)
  have e2 := freeAt_sh m hm ((l.length : Int) - freeAt l)
  have p1 : sh ((l.length : Int) + 1) ((l.length : Int) - freeAt l) (freeAt l) = l.length := by
    unfold sh
    rw [show freeAt l + ((l.length : Int) - freeAt l) = l.length by omega]
    exact Int.emod_eq_of_lt (by omega) (by omega)
  rw [p1] at e1
  have q1 := (isPk_free _ (by simpa using h8) (fin l h ((l.length : Int) - freeAt l))).mpr (by rw [e1]; simp)
  have hp2 : (l.map (sh ((l.length : Int) + 1) ((l.length : Int) - freeAt l))).Perm (m.map (sh ((m.length : Int) + 1) ((l.length : Int) - freeAt l))) := by
    rw [← hlen]
    exact hp.map _
  rw [isPk_perm hp2] at q1
  have q2 := (isPk_free _ (by rw [List.length_map]; omega) (fin m hm ((l.length : Int) - freeAt l))).mp q1
  rw [e2, List.length_map] at q2
  have b1 := sh_back ((l.length : Int) + 1) ((l.length : Int) - freeAt l) (freeAt l) hs.1 hs.2.1
  have b2 := sh_back ((m.length : Int) + 1) ((l.length : Int) - freeAt l) (freeAt m) hs2.1 hs2.2.1
  rw [p1] at b1
  rw [q2, ← hlen] at b2
  exact b1.symm.trans b2

end Go.Proofs.Ytdiohjdfiambhaa.Math
