/- A clock: its pieces, its state; New, none, find. -/
import Derived.Test.YtcjmkpphohkofaaBin
namespace Go.Proofs.Ytcjmkpphohkofaa
open Go.RowKit
set_option linter.unusedVariables false

structure Ck where
  a : Int
  b : Int
  l : List Al
abbrev ptrV (p : Nat) : Value := .pointer (some ⟨p, 0, none⟩)
def ckP (p : Nat) (sl : Value) (s : Ck) : List Pc := [.blk p [.int .i64 s.a, .int .i64 s.b, sl] 54, .own 59 4 sl s.l.length (alC s.l)]
/-- What holds of a clock's numbers; none has rung more than R times. -/
structure AlOk (b R : Int) (x : Al) : Prop where
  key : u64k x.key
  wait : 1 ≤ x.wait ∧ x.wait ≤ b
  left : 1 ≤ x.left ∧ x.left ≤ b
  rung : 0 ≤ x.rung ∧ x.rung ≤ R
structure CkOk (R : Int) (s : Ck) : Prop where
  a : 1 ≤ s.a ∧ s.a ≤ s.b
  b : s.b ≤ 65536
  len : s.l.length ≤ 256
  srt : Srt s.l
  all : ∀ x ∈ s.l, AlOk s.b R x
/-- The clock at p is in the state s. -/
def CAt (R : Int) (p : Nat) (s : Ck) (L : List Pc) (w : World) : Prop := ∃ sl, SL w (ckP p sl s ++ L) ∧ CkOk R s
theorem CAt.ok {R : Int} {p : Nat} {s : Ck} {L : List Pc} {w : World} (H : CAt R p s L w) : CkOk R s := by obtain ⟨sl, -, h⟩ := H; exact h
theorem AlOk.mono {b R R' : Int} {x : Al} (h : AlOk b R x) (hR : R ≤ R') : AlOk b R' x := ⟨h.key, h.wait, h.left, ⟨h.rung.1, by have := h.rung.2; omega⟩⟩
theorem CkOk.mono {R R' : Int} {s : Ck} (h : CkOk R s) (hR : R ≤ R') : CkOk R' s := ⟨h.a, h.b, h.len, h.srt, fun x hx => (h.all x hx).mono hR⟩
theorem CAt.mono {R R' : Int} {p : Nat} {s : Ck} {L : List Pc} {w : World} (H : CAt R p s L w) (hR : R ≤ R') : CAt R' p s L w := by obtain ⟨sl, h1, h⟩ := H; exact ⟨sl, h1, h.mono hR⟩
theorem CAt.map {R : Int} {p : Nat} {s : Ck} {L L' : List Pc} {w w' : World} (H : CAt R p s L w) (h : ∀ N, SL w (N ++ L) → SL w' (N ++ L')) : CAt R p s L' w' := by
  obtain ⟨sl, h1, ok⟩ := H
  exact ⟨sl, h _ h1, ok⟩
theorem re_app {L L' : List Pc} (N : List Pc) (r : Re L L') : Re (N ++ L) (N ++ L') := by
  induction N with
  | nil => exact r
  | cons p N ih => exact .step (.here _ _) ih
theorem re_right (N L : List Pc) : Re (N ++ L) L := by
  induction N with
  | nil => exact .same _
  | cons p N ih => exact .drop ih
theorem CAt.re {R : Int} {p : Nat} {s : Ck} {L L' : List Pc} {w : World} (H : CAt R p s L w) (r : Re L L') : CAt R p s L' w := H.map fun N h => h.re (re_app N r)
theorem CAt.tail {R : Int} {p : Nat} {s : Ck} {L : List Pc} {w : World} (H : CAt R p s L w) : SL w L := by obtain ⟨sl, h, -⟩ := H; exact h.tail.tail
theorem CAt.drewN {R : Int} {p : Nat} {s : Ck} {L : List Pc} {w : World} (H : CAt R p s L w) (n : Nat) : CAt R p s L (w.drewN n) := H.map fun N h => h.drewN n
theorem CAt.drew {R : Int} {p : Nat} {s : Ck} {L : List Pc} {w : World} (H : CAt R p s L w) : CAt R p s L w.drew := H.map fun N h => h.drew
theorem CAt.alloc {R : Int} {p : Nat} {s : Ck} {L : List Pc} {w : World} (H : CAt R p s L w) (cs : List Value) (t : TypeId) : CAt R p s (.blk w.heap.size cs t :: L) (w.alloc (.cells cs.toArray t)) := H.map fun N h => (h.alloc cs t).perm List.perm_middle.symm
theorem CAt.perm {R : Int} {p : Nat} {s : Ck} {L L' : List Pc} {w : World} (H : CAt R p s L w) (h : L.Perm L') : CAt R p s L' w := H.map fun N hN => hN.perm (h.append_left N)
theorem CAt.put {R : Int} {p : Nat} {s : Ck} {L : List Pc} {w : World} {b o : Nat} {cs : List Value} {t : TypeId} (H : CAt R p s (.blk b cs t :: L) w) (u : Value) : CAt R p s (.blk b (cs.set o u) t :: L) (w.setCell ⟨b, o, none⟩ u) := H.map fun N h => by
  have h1 : SL w (.blk b cs t :: (N ++ L)) := h.perm List.perm_middle
  exact (h1.setCell o u).perm List.perm_middle.symm

section
variable {R : Int} {p : Nat} {s : Ck} {L : List Pc} {w : World}
theorem new_c (a b : Int) (ha : 1 ≤ a ∧ a ≤ b) (hb : b ≤ 65536) (H : SL w L) :
    Calls Try.prog 9 #[.int .i64 a, .int .i64 b] w fun e w' => ∃ p, e = .returned (.tuple #[ptrV p, .int .i64 0]) ∧ CAt 0 p ⟨a, b, []⟩ L w' := by
  have hH := Lib.hid H
  clear H
  go_enter Try.func9, Try.ntmps9
  go_wp2_with fail
  have H1 := (hH.out.alloc [.int .i64 a, .int .i64 b, .slice none 0 0] 54)
  have hfin : Hid (CAt 0 w.heap.size ⟨a, b, []⟩ L (w.alloc (.cells [.int .i64 a, .int .i64 b, .slice none 0 0].toArray 54))) := Lib.hid ⟨.slice none 0 0, (H1.pure (q := .own 59 4 (.slice none 0 0) 0 []) (OwnK.nil _ _ _ _) (fun b h => by cases h)).re (.step (.there (.here _ _)) (.same _)), ⟨ha, hb, by simp, List.Pairwise.nil, by simp⟩⟩
  clear H1
  go_wp2_with fail
  go_ret2
  exact ⟨_, rfl, hfin.out⟩
theorem new_no (a b : Int) (h : a < 1 ∨ b < a ∨ 65536 < b) (w : World) :
    Calls Try.prog 9 #[.int .i64 a, .int .i64 b] w fun e w' => e = .returned (.tuple #[.pointer none, .int .i64 200]) ∧ w = w' := by
  by_cases h1 : a < 1
  · go_enter Try.func9, Try.ntmps9
    go_wp2_with fail
    go_ret2
    exact ⟨rfl, rfl⟩
  · by_cases h2 : b < a
    · go_enter Try.func9, Try.ntmps9
      go_wp2_with fail
      go_ret2
      exact ⟨rfl, rfl⟩
    · have h3 : 65536 < b := by omega
      go_enter Try.func9, Try.ntmps9
      go_wp2_with fail
      go_ret2
      exact ⟨rfl, rfl⟩
theorem none_c (H : CAt R p s L w) : Calls Try.prog 26 #[ptrV p] w fun e w' => e = .returned (.bool false) ∧ w = w' := by
  obtain ⟨sl, HS, ok⟩ := H
  have c0 := HS.cell (b := p) (o := 0) (.here _ _) rfl
  have ha := ok.a
  clear ok HS
  generalize s.a = a at *
  have hne : (a == 0) = false := by simp; omega
  go_enter Try.func26, Try.ntmps26
  go_wp2_with fail
  go_ret
  exact ⟨rfl, rfl⟩
theorem find_c {sl : Value} (H : SL w (ckP p sl s ++ L)) (ok : CkOk R s) (k : Int) :
    Calls Try.prog 27 #[ptrV p, .int .u64 k] w fun e w' => ∃ i : Nat, e = .returned (.tuple #[.int .i64 i, .bool (hit s.l k i)]) ∧ Cut s.l k i i ∧ SL w' (ckP p sl s ++ L) := by
  have c2 := H.cell (b := p) (o := 2) (.here _ _) rfl
  have hb := Lib.hid (bsearch_c (H.re (.step (.there (.here _ _)) (.same _)) : SL w (.own 59 4 sl s.l.length (alC s.l) :: .blk p [.int .i64 s.a, .int .i64 s.b, sl] 54 :: L)) (by have := ok.len; omega) ok.srt k)
  clear H ok
  go_enter Try.func27, Try.ntmps27
  go_wp2_with fail
  refine hb.out.mono ?_
  rintro e w2 ⟨i, rfl, hc, H2⟩
  have hfin := Lib.hid (H2.re (.step (.there (.here _ _)) (.same _)) : SL w2 (ckP p sl s ++ L))
  clear hb H2
  go_wp2_with fail
  go_ret2
  exact ⟨i, rfl, hc, hfin.out⟩
end
end Go.Proofs.Ytcjmkpphohkofaa
