/- What holds of a net beside other memory. -/
import Derived.Test.YtnkahibddhchlaaLen
import Derived.Test.YtnkahibddhchlaaByteStr
namespace Go.Proofs.Ytnkahibddhchlaa
open Go.RowKit
set_option linter.unusedVariables false

section
variable {p : Nat} {s : NSt} {L L' : List Pc} {w w' : World}
theorem re_app : ∀ (A : List Pc) {B C : List Pc}, Re B C → Re (A ++ B) (A ++ C)
  | [], _, _, h => h
  | x :: A, _, _, h => .step (.here _ _) (re_app A h)
theorem re_right : ∀ (A B : List Pc), Re (A ++ B) B
  | [], B => .same _
  | x :: A, B => .drop (re_right A B)

theorem NAt.map (H : NAt p s L w) (h : ∀ N, SL w (N ++ L) → SL w' (N ++ L')) : NAt p s L' w' := by
  obtain ⟨m, xs, h1, ok, hF⟩ := H
  exact ⟨m, xs, h _ h1, ok, hF⟩
theorem NAt.front (H : NAt p s L w) (h : ∀ N, SL w (L ++ N) → SL w' (L' ++ N)) : NAt p s L' w' := H.map fun N h1 => (h N (h1.perm List.perm_append_comm)).perm List.perm_append_comm
theorem NAt.re (H : NAt p s L w) (r : Re L L') : NAt p s L' w := H.map fun N h => h.re (re_app N r)
theorem NAt.tail (H : NAt p s L w) : SL w L := by
  obtain ⟨m, xs, h1, ok, hF⟩ := H
  exact h1.re (re_right _ _)
theorem NAt.alloc (H : NAt p s L w) (cs : List Value) (t : TypeId) : NAt p s (.blk w.heap.size cs t :: L) (w.alloc (.cells cs.toArray t)) := H.front fun N h => h.alloc cs t
theorem NAt.quiet (H : NAt p s L w) (hk : Kp no w w') : NAt p s L w' := H.map fun N h => h.quiet hk
theorem NAt.drew (H : NAt p s L w) : NAt p s L w.drew := H.map fun N h => h.drew
theorem NAt.drewN (H : NAt p s L w) (n : Nat) : NAt p s L (w.drewN n) := H.map fun N h => h.drewN n
theorem NAt.setCell {b : Nat} {cs : List Value} {t : TypeId} (H : NAt p s (.blk b cs t :: L) w) (o : Nat) (u : Value) : NAt p s (.blk b (cs.set o u) t :: L) (w.setCell ⟨b, o, none⟩ u) := H.front fun N h => h.setCell o u
theorem NAt.new (H : SL w (L ++ L')) (h : NAt p s L' w) : True := trivial

/-- The string that a datagram of one's own is. -/
theorem gr_str {g : Gr} (H : SL w L) (hp : Pull L (grP g) L') : (convert 29 9 (slV g.v)).run Try.prog w = .ok (.string (strOfNums g.bs)) w := by
  obtain ⟨a, c, e, h1, h2, h3⟩ := gr_slice H hp
  have h4 := run_str c h2 (fun h => by
    subst h
    by_cases h0 : g.bs = []
    · exact h0
    · obtain ⟨b, o, e', _⟩ := h2 0 (List.length_pos_iff.2 h0)
      cases e')
  rw [e]
  exact h4

theorem rdB_blk {b : Nat} {t : TypeId} {l : List Int} {R : List Pc} (H : SL w (.blk b (bv l) t :: R)) : RdB w (some ⟨b, 0, none⟩) l := RdB.of_rd (rd_blk H.head)

theorem NAt.allocO (H : NAt p s L w) (o : Obj) : NAt p s (.obj w.heap.size o :: L) (w.alloc o) := H.front fun N h => h.allocO o
theorem rdB_obj {b : Nat} {t : TypeId} {l : List Int} {fz : Nat × Nat} {R : List Pc} (H : SL w (.obj b (.cells (bv l).toArray t fz) :: R)) : RdB w (some ⟨b, 0, none⟩) l := fun i hi =>
  ⟨b, 0, rfl, by
    rw [Nat.zero_add]
    refine blk_cell (show w.heap[b]? = some (.cells (bv l).toArray t fz) from H.head) i _ ?_
    simp [bv, List.getD_eq_getElem?_getD, hi]⟩

theorem new_at (n room : Nat) (h1 : 1 ≤ n) (h2 : n ≤ 64) (h3 : 1 ≤ room) (h4 : room ≤ 256) (H : SL w L) :
    Calls Try.prog 10 #[.int .i64 n, .int .i64 room] w fun e w' => ∃ p, e = .returned (.tuple #[ptrV p, .int .i64 0]) ∧ NAt p ⟨n, room, t0, fun _ => []⟩ L w' := by
  refine (new_c n room h1 h2 h3 h4 H).mono ?_
  rintro e w' ⟨p, m, rfl, h⟩
  exact ⟨p, rfl, m, [], h, ⟨by simp, by simp, by simp, by simp, h1, h2, h3, h4⟩, rfl⟩
end

theorem Tok.zero (B : Int) (h : 0 ≤ B) : Tok B t0 := by
  constructor <;> exact ⟨Int.le_refl _, h⟩
theorem Tok.mono {B C : Int} {t : Tf} (h : Tok B t) (hBC : B ≤ C) : Tok C t := by
  obtain ⟨h1, h2, h3, h4, h5, h6⟩ := h
  constructor <;> omega
theorem Tok.come {B : Int} {t : Tf} (h : Tok B t) (room : Nat) (F : Ky → List (List Int)) (k : Ky) : Tok (B + 1) (comeT room F k t) := by
  obtain ⟨h1, h2, h3, h4, h5, h6⟩ := h
  unfold comeT
  split
  · constructor <;> omega
  · constructor <;> dsimp only <;> omega
theorem NSt.send_tok {B : Int} {s : NSt} (h : Tok B s.t) (a b : Int) (bs : List Int) : Tok (B + 2) (s.send a b bs).2.t := by
  unfold NSt.send
  split
  · have h1 : Tok (B + 1) { s.t with sent := s.t.sent + 1 } := by
      obtain ⟨h1, h2, h3, h4, h5, h6⟩ := h
      constructor <;> dsimp only <;> omega
    have := h1.come s.room s.F (a, b)
    rw [show B + 2 = B + 1 + 1 by omega]
    exact this
  · exact h.mono (by omega)
end Go.Proofs.Ytnkahibddhchlaa
