/- The reference's Tick. -/
import Derived.Test.YtcjmkpphohkofaaRfG
namespace Go.Proofs.Ytcjmkpphohkofaa
open Go.RowKit Go.Shelf
set_option linter.unusedVariables false

def tkO (b t : Int) (x : Al) : Al := if x.left = t then ⟨x.key, min (2 * x.wait) b, t + min (2 * x.wait) b, x.rung + 1⟩ else x
def rgO (t : Int) (x : Al) : Bool := decide (x.left = t)
def mpT (f : Al → Al) (l : List Al) (i : Nat) : List Al := (l.take i).map f ++ l.drop i
theorem mpT_length (f : Al → Al) (l : List Al) (i : Nat) : (mpT f l i).length = l.length := by
  unfold mpT
  rw [List.length_append, List.length_map, ← List.length_append, List.take_append_drop]
theorem mpT_at (f : Al → Al) (l : List Al) {i : Nat} (hi : i < l.length) : ∃ h : i < (mpT f l i).length, (mpT f l i)[i]'h = l[i]'hi := by
  refine ⟨by rw [mpT_length]; exact hi, ?_⟩
  unfold mpT
  rw [List.getElem_append_right (by simp [Nat.min_eq_left (Nat.le_of_lt hi)])]
  simp [Nat.min_eq_left (Nat.le_of_lt hi)]
theorem mpT_succ (f : Al → Al) (l : List Al) {i : Nat} (hi : i < l.length) : (mpT f l i).set i (f (l[i]'hi)) = mpT f l (i + 1) := by
  unfold mpT
  have hl : ((l.take i).map f).length = i := by rw [List.length_map, List.length_take]; omega
  rw [List.take_succ_eq_append_getElem hi, List.map_append, List.append_assoc, List.set_append_right _ _ (by omega), hl, Nat.sub_self, List.drop_eq_getElem_cons hi]
  rfl
theorem mpT_end (f : Al → Al) (l : List Al) : mpT f l l.length = l.map f := by unfold mpT; rw [List.take_length, List.drop_length, List.append_nil]
theorem ro_take {t : Int} {l : List Al} {i : Nat} (hi : i < l.length) : keysK ((l.take (i + 1)).filter (rgO t)) = keysK ((l.take i).filter (rgO t)) ++ (if (l[i]'hi).left = t then [(l[i]'hi).key] else []) := by
  rw [List.take_succ_eq_append_getElem hi]
  unfold keysK
  rw [List.filter_append, List.map_append]
  congr 1
  by_cases h : (l[i]'hi).left = t
  · simp [rgO, h]
  · simp [rgO, h]

section
variable {R : Int} {s : Ck}
theorem tick_perm {now : Nat} {ol : List Al} (ok : RfOk R s now ol) : RfOk (R + 1) (tickS s) (now + 1) (ol.map (tkO s.b ((now : Int) + 1))) := by
  refine ⟨by have := ok.1; omega, ?_, ok.2.2.tick⟩
  have e : (ol.map (tkO s.b ((now : Int) + 1))).map (decA (now + 1)) = (ol.map (decA now)).map (tk s.b) := by
    rw [List.map_map, List.map_map]
    refine List.map_congr_left fun x hx => ?_
    obtain ⟨i, hi, rfl⟩ := List.getElem_of_mem hx
    have h1 : 1 ≤ (ol[i]'hi).left - (now : Int) := (ok.at' hi).left.1
    generalize ol[i]'hi = x at *
    obtain ⟨k, wt, lf, rg⟩ := x
    dsimp only at h1
    show decA (now + 1) (tkO s.b ((now : Int) + 1) ⟨k, wt, lf, rg⟩) = tk s.b (decA now ⟨k, wt, lf, rg⟩)
    by_cases h : lf = (now : Int) + 1
    · have h2 : ¬ 1 < lf - (now : Int) := by omega
      rw [show tkO s.b ((now : Int) + 1) ⟨k, wt, lf, rg⟩ = ⟨k, min (2 * wt) s.b, (now : Int) + 1 + min (2 * wt) s.b, rg + 1⟩ from if_pos h, show tk s.b (decA now ⟨k, wt, lf, rg⟩) = ⟨k, min (2 * wt) s.b, min (2 * wt) s.b, rg + 1⟩ from if_neg h2]
      unfold decA
      dsimp only
      congr 1
      omega
    · have h2 : 1 < lf - (now : Int) := by omega
      rw [show tkO s.b ((now : Int) + 1) ⟨k, wt, lf, rg⟩ = ⟨k, wt, lf, rg⟩ from if_neg h, show tk s.b (decA now ⟨k, wt, lf, rg⟩) = ⟨k, wt, lf - (now : Int) - 1, rg⟩ from if_pos h2]
      unfold decA
      dsimp only
      congr 1
      omega
  rw [e]
  exact ok.2.1.map _
theorem rings_perm {now : Nat} {ol : List Al} (ok : RfOk R s now ol) : (keysK (ol.filter (rgO ((now : Int) + 1)))).Perm (ringsK s.l) := by
  have h := (ok.2.1.filter ringP).map Al.key
  rw [List.filter_map, List.map_map] at h
  have e : ol.filter (ringP ∘ decA now) = ol.filter (rgO ((now : Int) + 1)) := by
    refine List.filter_congr fun x hx => ?_
    obtain ⟨i, hi, rfl⟩ := List.getElem_of_mem hx
    have h1 : 1 ≤ (ol[i]'hi).left - (now : Int) := (ok.at' hi).left.1
    show (!decide (1 < (ol[i]'hi).left - (now : Int))) = decide ((ol[i]'hi).left = (now : Int) + 1)
    by_cases h : (ol[i]'hi).left = (now : Int) + 1
    · rw [decide_eq_true h, decide_eq_false (by omega)]; rfl
    · rw [decide_eq_false h, decide_eq_true (by omega)]; rfl
  rw [e] at h
  exact h
theorem rings_le (l : List Al) : (ringsK l).length ≤ l.length := by
  unfold ringsK keysK
  rw [List.length_map]
  exact List.length_filter_le _ _
end
end Go.Proofs.Ytcjmkpphohkofaa
