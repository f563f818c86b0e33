/- Proved here: slices.Compact, when called on a slice of whole numbers of the call's own, returns the slice with each run of equal numbers as one number; nothing else that lay in memory has turned. For slices shorter than 2^62. -/
import Derived.Test.YtjnchdccefdjmaaSrt
namespace Go.Proofs.Ytjnchdccefdjmaa.Srt
open Go Go.Proofs Go.RowKit Go.Shelf Go.Sort Go.Proofs.YtjnchdccefdjmaaW.PrintWords
set_option linter.unusedVariables false
set_option linter.unusedSimpArgs false

/-- slices.Compact of a row of the call's own -/
theorem compactR_calls (base : Nat) (v : Value) (xs : List Int) (w : World) (ho : Kd.R (Kd.int .i64) 3 w base (fun _ => True) v xs) (hl : xs.length < 4611686018427387904) :
    Calls Try.prog 46 #[v] w fun e w' => ∃ v', e = .returned v' ∧ Kd.R (Kd.int .i64) 3 w' base (fun _ => True) v' (Lib.compact xs) ∧ w.grownBy w' v.ownBlock := by
  have hw : w.ownsRow base 3 1 v xs.length (xs.map (Value.int .i64)) := Kd.own_of_R ho
  have hcl : (Lib.compact xs).length ≤ xs.length := by
    unfold Lib.compact Lib.compactUpTo
    rw [List.length_map]
    exact Nat.le_trans (List.length_filter_le _ _) (by simp)
  rcases hw.2 with ⟨rfl, hz⟩ | ⟨gb, cap, cur, rfl, hbase, hgb, r1, r2, r3, r4⟩
  · have hss : xs = [] := List.eq_nil_of_length_eq_zero hz
    subst hss
    refine (Try.slices_Compact_int_empty none 0 w).mono ?_
    rintro e w' ⟨rfl, rfl⟩
    exact ⟨_, rfl, by simpa [Lib.compact, Lib.compactUpTo] using ho, World.grownBy.refl _ _⟩
  · have hH : Holds (Value.int .i64) w gb 0 xs.toArray := holds_of_blockI hgb (by simpa using r4)
    have hcap : xs.length ≤ cap := own_le hw
    refine (Try.slices_Compact_int gb 0 cap xs w hH (by omega) hcap).mono ?_
    rintro e w' ⟨rfl, q, rfl⟩
    have hlen : (Lib.compact xs ++ List.replicate (xs.length - (Lib.compact xs).length) 0).length = xs.length := by
      rw [List.length_append, List.length_replicate]
      omega
    have eg : ∀ W : World, grow W #[] = W := fun W => by simp [grow]
    have h1 := ownsRow_sortedI (w := w) (base := base) (n := q) (os := #[]) hlen hbase hgb r1 r2 r3
    have h2 := grownBy_sortedI (w := w) (g := gb) (n := q) (os := #[]) (Lib.compact xs ++ List.replicate (xs.length - (Lib.compact xs).length) 0).toArray
    rw [eg] at h1 h2
    have h3 := own_take h1 hcl
    refine ⟨_, rfl, Kd.R_of_own (enc := Value.int .i64) ?_ (fun _ _ => trivial), by simpa [Value.ownBlock] using h2⟩
    have e2 : ((Lib.compact xs ++ List.replicate (xs.length - (Lib.compact xs).length) 0).map (Value.int .i64)).take ((Lib.compact xs).length * 1) = encs (Value.int .i64) (Lib.compact xs) := by
      rw [Nat.mul_one, ← List.map_take, List.take_left]
      rfl
    rw [e2] at h3
    exact h3
end Go.Proofs.Ytjnchdccefdjmaa.Srt
