/- Three clocks at once; what is dropped below a key: plain laws. -/
import Derived.Test.YtcjmkpphohkofaaTimesL
namespace Go.Proofs.Ytcjmkpphohkofaa
open Go.RowKit
set_option linter.unusedVariables false

def C3 (R : Int) (p : Nat) (s : Ck) (q : Nat) (s2 : Ck) (r : Nat) (s3 : Ck) (L : List Pc) (V : World) : Prop :=
  ∃ sl1 sl2 sl3, SL V (ckP p sl1 s ++ (ckP q sl2 s2 ++ (ckP r sl3 s3 ++ L))) ∧ CkOk R s ∧ CkOk R s2 ∧ CkOk R s3
section
variable {R R' : Int} {p q r : Nat} {s s2 s3 : Ck} {L : List Pc} {w w' : World}
theorem C3.rot (H : C3 R p s q s2 r s3 L w) : C3 R q s2 r s3 p s L w := by
  obtain ⟨a, b, c, h, h1, h2, h3⟩ := H
  refine ⟨b, c, a, ?_, h2, h3, h1⟩
  refine h.perm ((List.perm_append_comm_assoc _ _ _).trans (List.Perm.append_left _ (List.perm_append_comm_assoc _ _ _)))
theorem C3.mono (H : C3 R p s q s2 r s3 L w) (hR : R ≤ R') : C3 R' p s q s2 r s3 L w := by
  obtain ⟨a, b, c, h, h1, h2, h3⟩ := H
  exact ⟨a, b, c, h, h1.mono hR, h2.mono hR, h3.mono hR⟩
theorem C3.tail (H : C3 R p s q s2 r s3 L w) : SL w L := by
  obtain ⟨a, b, c, h, -⟩ := H
  exact ((h.re (re_right _ _)).re (re_right _ _)).re (re_right _ _)
theorem C3.map {L' : List Pc} (H : C3 R p s q s2 r s3 L w) (h : ∀ N, SL w (N ++ L) → SL w' (N ++ L')) : C3 R p s q s2 r s3 L' w' := by
  obtain ⟨a, b, c, hS, h1, h2, h3⟩ := H
  refine ⟨a, b, c, ?_, h1, h2, h3⟩
  have := h (ckP p a s ++ (ckP q b s2 ++ ckP r c s3)) (by simpa only [List.append_assoc] using hS)
  simpa only [List.append_assoc] using this
theorem C3.re {L' : List Pc} (H : C3 R p s q s2 r s3 L w) (h : Re L L') : C3 R p s q s2 r s3 L' w := H.map fun N hN => hN.re (re_app N h)
theorem C3.quiet (H : C3 R p s q s2 r s3 L w) (hk : Kp no w w') : C3 R p s q s2 r s3 L w' := H.map fun N hN => hN.quiet hk
theorem C3.lift {α : Type} {P : α → Ending → Prop} {S : α → Ck} {X : α → List Pc} {f : FuncId} {args : Array Value} (H : C3 R p s q s2 r s3 L w) (hR : R ≤ R') (h : ∀ L', CAt R p s L' w → Calls Try.prog f args w fun e w' => ∃ x, P x e ∧ CAt R' p (S x) (X x ++ L') w') :
    Calls Try.prog f args w fun e w' => ∃ x, P x e ∧ C3 R' p (S x) q s2 r s3 (X x ++ L) w' := by
  obtain ⟨a, b, c, hS, h1, h2, h3⟩ := H
  refine (h _ ⟨a, hS, h1⟩).mono ?_
  rintro e w' ⟨x, hp, sl, hS', hok⟩
  refine ⟨x, hp, sl, b, c, ?_, hok, h2.mono hR, h3.mono hR⟩
  refine hS'.perm (List.Perm.append_left _ ?_)
  exact (List.perm_append_comm_assoc _ _ _).trans (List.Perm.append_left _ (List.perm_append_comm_assoc _ _ _))
theorem C3.lift0 {P : Ending → Prop} {S : Ck} {f : FuncId} {args : Array Value} (H : C3 R p s q s2 r s3 L w) (hR : R ≤ R') (h : ∀ L', CAt R p s L' w → Calls Try.prog f args w fun e w' => P e ∧ CAt R' p S L' w') :
    Calls Try.prog f args w fun e w' => P e ∧ C3 R' p S q s2 r s3 L w' :=
  (H.lift (α := Unit) (P := fun _ e => P e) (S := fun _ => S) (X := fun _ => []) hR fun L' h' => (h L' h').mono fun e w' ⟨a, b⟩ => ⟨(), a, b⟩).mono fun e w' ⟨_, a, b⟩ => ⟨a, b⟩
/-- Numbers are handed out. -/
theorem C3.liftS {n : Nat} {l : List Int} {S : Ck} {f : FuncId} {args : Array Value} (H : C3 R p s q s2 r s3 L w) (hR : R ≤ R') (h : ∀ L', CAt R p s L' w → Calls Try.prog f args w fun e w' => ∃ a c, e = .returned (.slice a n c) ∧ CAt R' p S (.own 30 1 (.slice a n c) n (uv l) :: L') w') :
    Calls Try.prog f args w fun e w' => ∃ a c, e = .returned (.slice a n c) ∧ C3 R' p S q s2 r s3 (.own 30 1 (.slice a n c) n (uv l) :: L) w' :=
  (H.lift (α := Option Addr × Nat) (P := fun x e => e = .returned (.slice x.1 n x.2)) (S := fun _ => S) (X := fun x => [.own 30 1 (.slice x.1 n x.2) n (uv l)]) hR fun L' h' => (h L' h').mono fun e w' ⟨a, c, h1, h2⟩ => ⟨(a, c), h1, h2⟩).mono fun e w' ⟨x, a, b⟩ => ⟨x.1, x.2, a, b⟩
theorem C3.pull {X : Pc} (H : C3 R p s q s2 r s3 (X :: L) w) : ∃ M, SL w (X :: (M ++ L)) ∧ ∀ V L', SL V (M ++ L') → C3 R p s q s2 r s3 L' V := by
  obtain ⟨a, b, c, hS, h1, h2, h3⟩ := H
  refine ⟨ckP p a s ++ (ckP q b s2 ++ ckP r c s3), ?_, fun V L' h => ⟨a, b, c, by simpa only [List.append_assoc] using h, h1, h2, h3⟩⟩
  have : SL w ((ckP p a s ++ (ckP q b s2 ++ ckP r c s3)) ++ X :: L) := by simpa only [List.append_assoc] using hS
  exact this.perm List.perm_middle
theorem C3.of {a b : Value} (H : CAt R p s (ckP q a s2 ++ (ckP r b s3 ++ L)) w) (h2 : CkOk R s2) (h3 : CkOk R s3) : C3 R p s q s2 r s3 L w := by
  obtain ⟨sl, h, h1⟩ := H
  exact ⟨sl, a, b, h, h1, h2, h3⟩
end

def geK (k : Int) (z : Int) : Bool := !decide (z < k)
theorem keys_filter (l : List Al) (p : Int → Bool) : keysK (l.filter fun x => p x.key) = (keysK l).filter p := by
  unfold keysK
  rw [List.filter_map]
  rfl
theorem keys_from (l : List Al) (k : Int) : keysK (fromK l k) = (keysK l).filter (geK k) := keys_filter l (geK k)
theorem rings_from (l : List Al) (k : Int) : ringsK (fromK l k) = (ringsK l).filter (geK k) := by
  unfold ringsK fromK
  rw [List.filter_filter, ← keys_filter, List.filter_filter]
  congr 1
  refine List.filter_congr fun x _ => ?_
  unfold geK
  rw [Bool.and_comm]
theorem tick_from (s : Ck) (k : Int) : tickS (belowS s k) = belowS (tickS s) k := by
  unfold tickS belowS fromK
  dsimp only
  congr 1
  rw [List.filter_map]
  congr 1
  refine List.filter_congr fun x _ => ?_
  simp [tk_key]
/-- What is left when j of the keys were gone through. -/
def dropTo (l : List Al) (k : Int) (j : Nat) : List Al := fromK (l.take j) k ++ l.drop j
theorem dropTo_end (l : List Al) (k : Int) : dropTo l k l.length = fromK l k := by unfold dropTo; rw [List.take_length, List.drop_length, List.append_nil]
theorem dropTo_keep {l : List Al} {k : Int} {j : Nat} (hj : j < l.length) (h : ¬ (l[j]'hj).key < k) : dropTo l k (j + 1) = dropTo l k j := by
  unfold dropTo
  rw [List.take_succ_eq_append_getElem hj, List.drop_eq_getElem_cons hj]
  unfold fromK
  rw [List.filter_append, List.append_assoc]
  congr 1
  simp [h]
theorem dropTo_gone {l : List Al} (hs : Srt l) {k : Int} {j : Nat} (hj : j < l.length) (h : (l[j]'hj).key < k) : hasK (dropTo l k j) (l[j]'hj).key = true ∧ dropK (dropTo l k j) (l[j]'hj).key = dropTo l k (j + 1) := by
  obtain ⟨h1, h2⟩ := beside hs hj rfl
  have e : dropTo l k j = fromK (l.take j) k ++ (l[j]'hj) :: l.drop (j + 1) := by unfold dropTo; rw [List.drop_eq_getElem_cons hj]
  rw [e]
  refine ⟨hasK_iff.2 ⟨l[j]'hj, List.mem_append.2 (.inr (List.mem_cons.2 (.inl rfl))), rfl⟩, ?_⟩
  unfold dropK
  rw [List.filter_append, List.filter_cons, filter_all fun x hx => by simpa using h1 x (List.mem_filter.1 hx).1, filter_all fun x hx => by simpa using h2 x hx]
  unfold dropTo
  rw [List.take_succ_eq_append_getElem hj]
  unfold fromK
  rw [List.filter_append]
  simp [h]
theorem filter_take_succ {l : List Int} {j : Nat} (hj : j < l.length) (p : Int → Bool) : (l.take (j + 1)).filter p = (l.take j).filter p ++ if p (l[j]'hj) = true then [l[j]'hj] else [] := by
  rw [List.take_succ_eq_append_getElem hj, List.filter_append, List.filter_cons, List.filter_nil]
theorem dropTo_ok {R : Int} {s : Ck} (h : CkOk R s) (k : Int) (j : Nat) : CkOk R { s with l := dropTo s.l k j } := by
  have hsub : (dropTo s.l k j).Sublist s.l := by
    unfold dropTo
    conv => rhs; rw [← List.take_append_drop j s.l]
    exact List.Sublist.append List.filter_sublist (List.Sublist.refl _)
  exact ⟨h.a, h.b, Nat.le_trans hsub.length_le h.len, h.srt.sublist hsub, fun x hx => h.all x (hsub.subset hx)⟩
theorem gone_len (l : List Int) (k : Int) : (l.filter fun z => !geK k z).length = l.length - (l.filter (geK k)).length := by
  have : (l.filter (geK k)).length + (l.filter fun z => !geK k z).length = l.length := by
    induction l with
    | nil => rfl
    | cons x l ih => by_cases h : geK k x = true <;> simp [h] at ih ⊢ <;> omega
  omega
end Go.Proofs.Ytcjmkpphohkofaa
