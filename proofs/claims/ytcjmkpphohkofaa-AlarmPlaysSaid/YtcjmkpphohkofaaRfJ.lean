/- A clock and the reference at once. -/
import Derived.Test.YtcjmkpphohkofaaRfI
namespace Go.Proofs.Ytcjmkpphohkofaa
open Go.RowKit Go.Shelf
set_option linter.unusedVariables false

def Bth (R : Int) (p : Nat) (s : Ck) (y : Nat) (s2 : Ck) (L : List Pc) (w : World) : Prop := ∃ (a : Value) (now : Nat) (sl : Value) (ol : List Al), SL w (ckP p a s ++ (rfP y s2.a s2.b now sl ol ++ L)) ∧ CkOk R s ∧ RfOk R s2 now ol
theorem RfOk.mono {R R' : Int} {s : Ck} {now : Nat} {ol : List Al} (h : RfOk R s now ol) (hR : R ≤ R') : RfOk R' s now ol := ⟨by have := h.1; omega, h.2.1, h.2.2.mono hR⟩

section
variable {R R' : Int} {p y : Nat} {s s2 : Ck} {L : List Pc} {w w' : World}
theorem Bth.mono (H : Bth R p s y s2 L w) (hR : R ≤ R') : Bth R' p s y s2 L w := by
  obtain ⟨a, now, sl, ol, h, h1, h2⟩ := H
  exact ⟨a, now, sl, ol, h, h1.mono hR, h2.mono hR⟩
theorem Bth.tail (H : Bth R p s y s2 L w) : SL w L := by
  obtain ⟨a, now, sl, ol, h, -⟩ := H
  exact (h.re (re_right _ _)).re (re_right _ _)
theorem Bth.map {L' : List Pc} (H : Bth R p s y s2 L w) (h : ∀ N, SL w (N ++ L) → SL w' (N ++ L')) : Bth R p s y s2 L' w' := by
  obtain ⟨a, now, sl, ol, hS, h1, h2⟩ := H
  refine ⟨a, now, sl, ol, ?_, h1, h2⟩
  have := h (ckP p a s ++ rfP y s2.a s2.b now sl ol) (by simpa only [List.append_assoc] using hS)
  simpa only [List.append_assoc] using this
theorem Bth.re {L' : List Pc} (H : Bth R p s y s2 L w) (h : Re L L') : Bth R p s y s2 L' w := H.map fun N hN => hN.re (re_app N h)
theorem Bth.quiet (H : Bth R p s y s2 L w) (hk : Kp no w w') : Bth R p s y s2 L w' := H.map fun N hN => hN.quiet hk
theorem Bth.drewN (H : Bth R p s y s2 L w) (n : Nat) : Bth R p s y s2 L (w.drewN n) := H.map fun N h => h.drewN n
theorem Bth.drew (H : Bth R p s y s2 L w) : Bth R p s y s2 L w.drew := H.map fun N h => h.drew
theorem Bth.alloc (H : Bth R p s y s2 L w) (cs : List Value) (t : TypeId) : Bth R p s y s2 (.blk w.heap.size cs t :: L) (w.alloc (.cells cs.toArray t)) := H.map fun N h => (h.alloc cs t).perm List.perm_middle.symm
theorem Bth.ok (H : Bth R p s y s2 L w) : CkOk R s := by obtain ⟨a, now, sl, ol, -, h, -⟩ := H; exact h
theorem Bth.lift1 {α : Type} {P : α → Ending → Prop} {S : α → Ck} {X : α → List Pc} {f : FuncId} {args : Array Value} (H : Bth R p s y s2 L w) (hR : R ≤ R') (h : ∀ L', CAt R p s L' w → Calls Try.prog f args w fun e w' => ∃ x, P x e ∧ CAt R' p (S x) (X x ++ L') w') :
    Calls Try.prog f args w fun e w' => ∃ x, P x e ∧ Bth R' p (S x) y s2 (X x ++ L) w' := by
  obtain ⟨a, now, sl, ol, hS, h1, h2⟩ := H
  refine (h _ ⟨a, hS, h1⟩).mono ?_
  rintro e w' ⟨x, hp, b, hS', hok⟩
  exact ⟨x, hp, b, now, sl, ol, hS'.perm (List.Perm.append_left _ (List.perm_append_comm_assoc _ _ _)), hok, h2.mono hR⟩
theorem Bth.lift2 {α : Type} {P : α → Ending → Prop} {S : α → Ck} {X : α → List Pc} {f : FuncId} {args : Array Value} (H : Bth R p s y s2 L w) (hR : R ≤ R') (h : ∀ L', RF R y s2 L' w → Calls Try.prog f args w fun e w' => ∃ x, P x e ∧ RF R' y (S x) (X x ++ L') w') :
    Calls Try.prog f args w fun e w' => ∃ x, P x e ∧ Bth R' p s y (S x) (X x ++ L) w' := by
  obtain ⟨a, now, sl, ol, hS, h1, h2⟩ := H
  refine (h _ ⟨now, sl, ol, hS.perm (List.perm_append_comm_assoc _ _ _), h2⟩).mono ?_
  rintro e w' ⟨x, hp, now', sl', ol', hS', hok⟩
  refine ⟨x, hp, a, now', sl', ol', hS'.perm ?_, h1.mono hR, hok⟩
  exact (List.Perm.append_left _ (List.perm_append_comm_assoc _ _ _)).trans (List.perm_append_comm_assoc _ _ _)
theorem Bth.out1 {P : Ending → Prop} {S : Ck} {f : FuncId} {args : Array Value} (H : Bth R p s y s2 L w) (hR : R ≤ R') (h : ∀ L', CAt R p s L' w → Calls Try.prog f args w fun e w' => P e ∧ CAt R' p S L' w') :
    Calls Try.prog f args w fun e w' => P e ∧ Bth R' p S y s2 L w' :=
  (H.lift1 (α := Unit) (P := fun _ e => P e) (S := fun _ => S) (X := fun _ => []) hR fun L' h' => (h L' h').mono fun e w' ⟨a, b⟩ => ⟨(), a, b⟩).mono fun e w' ⟨_, a, b⟩ => ⟨a, b⟩
theorem Bth.out2 {P : Ending → Prop} {S : Ck} {f : FuncId} {args : Array Value} (H : Bth R p s y s2 L w) (hR : R ≤ R') (h : ∀ L', RF R y s2 L' w → Calls Try.prog f args w fun e w' => P e ∧ RF R' y S L' w') :
    Calls Try.prog f args w fun e w' => P e ∧ Bth R' p s y S L w' :=
  (H.lift2 (α := Unit) (P := fun _ e => P e) (S := fun _ => S) (X := fun _ => []) hR fun L' h' => (h L' h').mono fun e w' ⟨a, b⟩ => ⟨(), a, b⟩).mono fun e w' ⟨_, a, b⟩ => ⟨a, b⟩
theorem Bth.sl1 {n : Nat} {l : List Int} {S : Ck} {f : FuncId} {args : Array Value} (H : Bth R p s y s2 L w) (hR : R ≤ R') (h : ∀ L', CAt R p s L' w → Calls Try.prog f args w fun e w' => ∃ a c, e = .returned (.slice a n c) ∧ CAt R' p S (.own 30 1 (.slice a n c) n (uv l) :: L') w') :
    Calls Try.prog f args w fun e w' => ∃ a c, e = .returned (.slice a n c) ∧ Bth R' p S y s2 (.own 30 1 (.slice a n c) n (uv l) :: L) w' :=
  (H.lift1 (α := Option Addr × Nat) (P := fun x e => e = .returned (.slice x.1 n x.2)) (S := fun _ => S) (X := fun x => [.own 30 1 (.slice x.1 n x.2) n (uv l)]) hR fun L' h' => (h L' h').mono fun e w' ⟨a, c, h1, h2⟩ => ⟨(a, c), h1, h2⟩).mono fun e w' ⟨x, a, b⟩ => ⟨x.1, x.2, a, b⟩
theorem Bth.sl2 {n : Nat} {l : List Int} {S : Ck} {f : FuncId} {args : Array Value} (H : Bth R p s y s2 L w) (hR : R ≤ R') (h : ∀ L', RF R y s2 L' w → Calls Try.prog f args w fun e w' => ∃ a c, e = .returned (.slice a n c) ∧ RF R' y S (.own 30 1 (.slice a n c) n (uv l) :: L') w') :
    Calls Try.prog f args w fun e w' => ∃ a c, e = .returned (.slice a n c) ∧ Bth R' p s y S (.own 30 1 (.slice a n c) n (uv l) :: L) w' :=
  (H.lift2 (α := Option Addr × Nat) (P := fun x e => e = .returned (.slice x.1 n x.2)) (S := fun _ => S) (X := fun x => [.own 30 1 (.slice x.1 n x.2) n (uv l)]) hR fun L' h' => (h L' h').mono fun e w' ⟨a, c, h1, h2⟩ => ⟨(a, c), h1, h2⟩).mono fun e w' ⟨x, a, b⟩ => ⟨x.1, x.2, a, b⟩
/-- The copy takes the clock's place. -/
theorem Bth.copy (H : Bth R p s y s2 L w) : Calls Try.prog 20 #[ptrV p] w fun e w' => ∃ q sl', e = .returned (ptrV q) ∧ Bth R p s y s2 (ckP q sl' s ++ L) w' :=
  (H.lift1 (α := Nat × Value) (P := fun x e => e = .returned (ptrV x.1)) (S := fun _ => s) (X := fun x => ckP x.1 x.2 s) (Int.le_refl _) fun L' h' => (copy_c h').mono fun e w' ⟨q, sl', h1, h2⟩ => ⟨(q, sl'), h1, h2⟩).mono fun e w' ⟨x, a, b⟩ => ⟨x.1, x.2, a, b⟩
theorem Bth.swap {q : Nat} {sl' : Value} {s3 : Ck} (H : Bth R p s y s2 (ckP q sl' s3 ++ L) w) (h3 : CkOk R s3) : Bth R q s3 y s2 L w := by
  obtain ⟨a, now, sl, ol, hS, -, h2⟩ := H
  exact ⟨sl', now, sl, ol, (hS.re (re_right _ _)).perm (List.perm_append_comm_assoc _ _ _), h3, h2⟩
end
end Go.Proofs.Ytcjmkpphohkofaa
