/- The walks of Greatest, Owes, View. -/
import Derived.Test.YtaibdcglhibglaaMemH
import Derived.Test.YtaibdcglhibglaaOrder
namespace Go.Proofs.Ytaibdcglhibglaa
open Go.RowKit
set_option linter.unusedVariables false

/-- A member, its members' slice, and who joined. -/
def MEM (p : Nat) (self nodes disp N By : Int) (a : Option Addr) (c : Nat) (ms : List Int) (gN gBy : Int) (owes : Bool) (b : Nat) (ps : Int → Bool) (count : Int) (L : List Pc) : List Pc :=
  memB p self nodes disp N By (.slice a ms.length c) gN gBy owes (.map (some b)) count :: .own 3 1 (.slice a ms.length c) ms.length (iv ms) :: iset b ps :: L

section
variable {p : Nat} {self nodes disp N By gN gBy count : Int} {s j : Value} {owes : Bool} {L : List Pc} {w : World}
set_option maxHeartbeats 4000000 in
theorem greatest_c (H : SL w (memB p self nodes disp N By s gN gBy owes j count :: L)) (hn : 1 ≤ nodes) :
    Calls Try.prog 16 #[.pointer (some ⟨p, 0, none⟩)] w fun r w' => r = .returned (.agg #[.int .u32 gN, .int .i64 gBy]) ∧ SL w' (memB p self nodes disp N By s gN gBy owes j count :: L) := by
  have H1 := H.alloc [.int .u32 0, .int .i64 0] 31
  have hH := Lib.hid H1
  have hno := Lib.hid (none_c (H1.re (L' := memB p self nodes disp N By s gN gBy owes j count :: .blk w.heap.size [.int .u32 0, .int .i64 0] 31 :: L) (.step (.there (.here _ _)) (.same _))))
  have hnz : (nodes == 0) = false := by simp; omega
  rw [hnz] at hno
  clear H H1 hn hnz
  go_enter Try.func16, Try.ntmps16
  go_wp2_with fail
  refine hno.out.mono ?_
  rintro r w' ⟨rfl, rfl⟩
  clear hno
  generalize w.alloc (.cells #[.int .u32 0, .int .i64 0] 31) = w2 at *
  generalize w.heap.size = b1 at *
  have z0 := hH.out.cell (o := 0) (.here _ _) rfl
  have z1 := hH.out.cell (o := 1) (.here _ _) rfl
  have fz := fun o => hH.out.free (.here _ _) o
  have g6 := hH.out.cell (o := 6) (.there (.here _ _)) rfl
  have g7 := hH.out.cell (o := 7) (.there (.here _ _)) rfl
  have h8 := Lib.hid ((hH.out.setCell 0 (.int .u32 gN)).setCell 1 (.int .i64 gBy))
  clear hH
  go_wp2_with fail
  generalize (w2.setCell ⟨b1, 0, none⟩ (.int .u32 gN)).setCell ⟨b1, 1, none⟩ (.int .i64 gBy) = w3 at *
  have k0 := h8.out.cell (o := 0) (.here _ _) rfl
  have k1 := h8.out.cell (o := 1) (.here _ _) rfl
  refine bodyPost_ret (v := .agg #[.int .u32 gN, .int .i64 gBy]) ?_ rfl ?_
  · simp [results, Try.results16, go_sem, k0, k1]
  · exact ⟨rfl, h8.out.re (.drop (.same _))⟩

set_option maxHeartbeats 4000000 in
theorem owes_c (H : SL w (memB p self nodes disp N By s gN gBy owes j count :: L)) (hn : 1 ≤ nodes) :
    Calls Try.prog 23 #[.pointer (some ⟨p, 0, none⟩)] w fun r w' => r = .returned (.tuple #[.int .i64 (if owes = true then By else 0), .bool owes]) ∧ SL w' (memB p self nodes disp N By s gN gBy false j count :: L) := by
  have hno := Lib.hid (none_c H)
  have hnz : (nodes == 0) = false := by simp; omega
  rw [hnz] at hno
  have g8 := H.cell (o := 8) (.here _ _) rfl
  have g4 := H.cell (o := 4) (.here _ _) rfl
  have fz := fun o => H.free (.here _ _) o
  have hH := Lib.hid H
  have hH2 := Lib.hid (H.setCell 8 (.bool false))
  clear H hn hnz
  go_enter Try.func23, Try.ntmps23
  cases owes
  · go_wp2_with fail
    refine hno.out.mono ?_
    rintro r w' ⟨rfl, rfl⟩
    clear hno
    go_wp2_with fail
    go_ret2
    exact ⟨rfl, hH.out⟩
  · go_wp2_with fail
    refine hno.out.mono ?_
    rintro r w' ⟨rfl, rfl⟩
    clear hno
    go_wp2_with fail
    go_ret2
    exact ⟨rfl, hH2.out⟩
end

section
variable {p b c : Nat} {self nodes disp N By gN gBy count : Int} {a : Option Addr} {ms : List Int} {ps : Int → Bool} {owes : Bool} {L : List Pc} {w : World}
set_option maxHeartbeats 4000000 in
theorem view_c (H : SL w (MEM p self nodes disp N By a c ms gN gBy owes b ps count L)) (hn : 1 ≤ nodes) (hm : ms ≠ []) (hl : ms.length ≤ 1000000) :
    Calls Try.prog 10 #[.pointer (some ⟨p, 0, none⟩)] w fun r w' => ∃ a' c', r = .returned (.agg #[.int .u32 N, .int .i64 By, .slice a' ms.length c']) ∧
      SL w' (.own 3 1 (.slice a' ms.length c') ms.length (iv ms) :: MEM p self nodes disp N By a c ms gN gBy owes b ps count L) := by
  unfold MEM at *
  obtain ⟨g, hg⟩ : ∃ g, a = some ⟨g, 0, none⟩ := by
    have hne : ¬ (Value.slice a ms.length c = .slice none 0 0 ∧ ms.length = 0 ∧ iv ms = []) := by
      rintro ⟨-, h, -⟩
      exact hm (List.eq_nil_of_length_eq_zero h)
    obtain ⟨g, k, h, -⟩ := (OwnK.form (H.ownOf (.there (.here _ _)))).resolve_left hne
    cases h
    exact ⟨g, rfl⟩
  subst hg
  have H1 := H.alloc [.int .u32 0, .int .i64 0, .slice none 0 0] 34
  have hH := Lib.hid H1
  have hno := Lib.hid (none_c (H1.re (.step (.there (.here _ _)) (.same _))))
  have hnz : (nodes == 0) = false := by simp; omega
  rw [hnz] at hno
  have hcl := Lib.hid (fun V L (h : SL V L) (hr : RdI V (some ⟨g, 0, none⟩) ms) => clone_c ms g 0 c V h hl hr)
  obtain ⟨len, hlen⟩ : ∃ len, ms.length = len := ⟨_, rfl⟩
  rw [hlen] at hH hcl ⊢
  have hlen' := Lib.hid hlen
  clear H H1 hn hnz hm hl hlen
  go_enter Try.func10, Try.ntmps10
  go_wp2_with fail
  refine hno.out.mono ?_
  rintro r w' ⟨rfl, rfl⟩
  clear hno
  generalize w.alloc (.cells #[.int .u32 0, .int .i64 0, .slice none 0 0] 34) = w2 at *
  generalize w.heap.size = b1 at *
  have g3 := hH.out.cell (o := 3) (.there (.here _ _)) rfl
  have g4 := hH.out.cell (o := 4) (.there (.here _ _)) rfl
  have g5 := hH.out.cell (o := 5) (.there (.here _ _)) rfl
  go_wp2_with fail
  refine wp_region_held_drew (S := (fun W => W.cell? ⟨p, 3, none⟩ = some (.int .u32 N) ∧ W.cell? ⟨p, 4, none⟩ = some (.int .i64 By) ∧ W.cell? ⟨p, 5, none⟩ = some (.slice (some ⟨g, 0, none⟩) len c))) (by kernel_rfl) ?_ (fun hHeld => ?_)
  · have H := hH.out.drew
    exact ⟨H.cell (by first | exact .here _ _ | exact .there (.here _ _) | exact .there (.there (.here _ _)) | exact .there (.there (.there (.here _ _))) | exact .there (.there (.there (.there (.here _ _)))) | exact .there (.there (.there (.there (.there (.here _ _))))) | exact .there (.there (.there (.there (.there (.there (.here _ _)))))) | exact .there (.there (.there (.there (.there (.there (.there (.here _ _))))))) | exact .there (.there (.there (.there (.there (.there (.there (.there (.here _ _)))))))) | exact .there (.there (.there (.there (.there (.there (.there (.there (.there (.here _ _))))))))) | exact .there (.there (.there (.there (.there (.there (.there (.there (.there (.there (.here _ _)))))))))) | exact .there (.there (.there (.there (.there (.there (.there (.there (.there (.there (.there (.here _ _))))))))))) | exact .there (.there (.there (.there (.there (.there (.there (.there (.there (.there (.there (.there (.here _ _)))))))))))) | exact .there (.there (.there (.there (.there (.there (.there (.there (.there (.there (.there (.there (.there (.here _ _)))))))))))))) rfl, H.cell (by first | exact .here _ _ | exact .there (.here _ _) | exact .there (.there (.here _ _)) | exact .there (.there (.there (.here _ _))) | exact .there (.there (.there (.there (.here _ _)))) | exact .there (.there (.there (.there (.there (.here _ _))))) | exact .there (.there (.there (.there (.there (.there (.here _ _)))))) | exact .there (.there (.there (.there (.there (.there (.there (.here _ _))))))) | exact .there (.there (.there (.there (.there (.there (.there (.there (.here _ _)))))))) | exact .there (.there (.there (.there (.there (.there (.there (.there (.there (.here _ _))))))))) | exact .there (.there (.there (.there (.there (.there (.there (.there (.there (.there (.here _ _)))))))))) | exact .there (.there (.there (.there (.there (.there (.there (.there (.there (.there (.there (.here _ _))))))))))) | exact .there (.there (.there (.there (.there (.there (.there (.there (.there (.there (.there (.there (.here _ _)))))))))))) | exact .there (.there (.there (.there (.there (.there (.there (.there (.there (.there (.there (.there (.there (.here _ _)))))))))))))) rfl, H.cell (by first | exact .here _ _ | exact .there (.here _ _) | exact .there (.there (.here _ _)) | exact .there (.there (.there (.here _ _))) | exact .there (.there (.there (.there (.here _ _)))) | exact .there (.there (.there (.there (.there (.here _ _))))) | exact .there (.there (.there (.there (.there (.there (.here _ _)))))) | exact .there (.there (.there (.there (.there (.there (.there (.here _ _))))))) | exact .there (.there (.there (.there (.there (.there (.there (.there (.here _ _)))))))) | exact .there (.there (.there (.there (.there (.there (.there (.there (.there (.here _ _))))))))) | exact .there (.there (.there (.there (.there (.there (.there (.there (.there (.there (.here _ _)))))))))) | exact .there (.there (.there (.there (.there (.there (.there (.there (.there (.there (.there (.here _ _))))))))))) | exact .there (.there (.there (.there (.there (.there (.there (.there (.there (.there (.there (.there (.here _ _)))))))))))) | exact .there (.there (.there (.there (.there (.there (.there (.there (.there (.there (.there (.there (.there (.here _ _)))))))))))))) rfl⟩
  have H := hH.out.drew
  generalize World.drew w2 = w3 at *
  clear hH g3 g4 g5
  refine takeL (i := 0) rfl (by kernel_rfl) (by kernel_rfl) (by kernel_rfl) (fun _ _ _ _ h => h) hHeld ?_ (Or.inl ⟨by rfl, ?_⟩) ?_
  rotate_left
  · intro W hW
    (try dsimp only at hW)
    first | (go_simp; done) | (go_simp; with_reducible rfl)
  ((try simp only [Act.put]); (try simp only [List.setIfInBounds_toArray]); (try simp only [List.set_cons_succ]); (try simp only [List.set_cons_zero]))
  refine takeL (i := 1) rfl (by kernel_rfl) (by kernel_rfl) (by kernel_rfl) (fun _ _ _ _ h => h) hHeld ?_ (Or.inl ⟨by rfl, ?_⟩) ?_
  rotate_left
  · intro W hW
    (try dsimp only at hW)
    first | (go_simp; done) | (go_simp; with_reducible rfl)
  ((try simp only [Act.put]); (try simp only [List.setIfInBounds_toArray]); (try simp only [List.set_cons_succ]); (try simp only [List.set_cons_zero]))
  refine takeL (i := 2) rfl (by kernel_rfl) (by kernel_rfl) (by kernel_rfl) (fun _ _ _ _ h => h) hHeld ?_ (Or.inl ⟨by rfl, ?_⟩) ?_
  rotate_left
  · intro W hW
    (try dsimp only at hW)
    first | (go_simp; done) | (go_simp; with_reducible rfl)
  ((try simp only [Act.put]); (try simp only [List.setIfInBounds_toArray]); (try simp only [List.set_cons_succ]); (try simp only [List.set_cons_zero]))
  refine takeL (i := 3) rfl (by kernel_rfl) (by kernel_rfl) (by kernel_rfl) (fun _ _ _ _ h => h) hHeld ?_ (Or.inl ⟨by rfl, ?_⟩) ?_
  rotate_left
  · intro W hW
    (try dsimp only at hW)
    first | (go_simp; done) | (go_simp; with_reducible rfl)
  ((try simp only [Act.put]); (try simp only [List.setIfInBounds_toArray]); (try simp only [List.set_cons_succ]); (try simp only [List.set_cons_zero]))
  refine takeL (i := 4) rfl (by kernel_rfl) (by kernel_rfl) (by kernel_rfl) (fun _ _ _ _ h => h) hHeld ?_ (Or.inl ⟨by rfl, ?_⟩) ?_
  rotate_left
  · intro W hW
    (try dsimp only at hW)
    first | (go_simp; done) | (go_simp; with_reducible rfl)
  ((try simp only [Act.put]); (try simp only [List.setIfInBounds_toArray]); (try simp only [List.set_cons_succ]); (try simp only [List.set_cons_zero]))
  refine takeL (i := 5) rfl (by kernel_rfl) (by kernel_rfl) (by kernel_rfl) (fun _ _ _ _ h => h) hHeld ?_ (Or.inl ⟨by rfl, ?_⟩) ?_
  rotate_left
  · intro W hW
    (try dsimp only at hW)
    first | (go_simp; done) | (go_simp; with_reducible rfl)
  ((try simp only [Act.put]); (try simp only [List.setIfInBounds_toArray]); (try simp only [List.set_cons_succ]); (try simp only [List.set_cons_zero]))
  refine takeL (i := 6) rfl (by kernel_rfl) (by kernel_rfl) (by kernel_rfl) (fun _ _ _ _ h => h) hHeld ?_ (Or.inl ⟨by rfl, ?_⟩) ?_
  rotate_left
  · intro W hW
    (try dsimp only at hW)
    first | (go_simp; done) | (go_simp; with_reducible rfl)
  ((try simp only [Act.put]); (try simp only [List.setIfInBounds_toArray]); (try simp only [List.set_cons_succ]); (try simp only [List.set_cons_zero]))
  refine takeL (i := 7) rfl (by kernel_rfl) (by kernel_rfl) (by kernel_rfl) (fun _ _ _ _ h => h) hHeld ?_ (Or.inl ⟨by rfl, ?_⟩) ?_
  rotate_left
  · intro W hW
    (try dsimp only at hW)
    first | (go_simp; done) | (go_simp; with_reducible rfl)
  ((try simp only [Act.put]); (try simp only [List.setIfInBounds_toArray]); (try simp only [List.set_cons_succ]); (try simp only [List.set_cons_zero]))
  refine takeL (i := 8) rfl (by kernel_rfl) (by kernel_rfl) (by kernel_rfl) (fun _ _ _ _ h => h) hHeld ?_ (Or.inl ⟨by rfl, ?_⟩) ?_
  rotate_left
  · intro W hW
    (try dsimp only at hW)
    first | (go_simp; done) | (go_simp; with_reducible rfl)
  ((try simp only [Act.put]); (try simp only [List.setIfInBounds_toArray]); (try simp only [List.set_cons_succ]); (try simp only [List.set_cons_zero]))
  refine takeL (i := 9) rfl (by kernel_rfl) (by kernel_rfl) (by kernel_rfl) (fun _ _ _ _ h => h) hHeld ?_ (Or.inl ⟨by rfl, ?_⟩) ?_
  rotate_left
  · intro W hW
    (try dsimp only at hW)
    first | (go_simp; done) | (go_simp; with_reducible rfl)
  ((try simp only [Act.put]); (try simp only [List.setIfInBounds_toArray]); (try simp only [List.set_cons_succ]); (try simp only [List.set_cons_zero]))
  refine callL (i := 10) rfl (by kernel_rfl) (fun K hK => ?_)
  rw [if_pos (by rfl)]
  go_simp
  refine (hcl.out w3 _ H (OwnK.rdI (show OwnK w3 0 3 1 _ _ (iv ms) from H.ownOf (.there (.there (.here _ _))))).2.2).mono ?_
  rintro r w4 ⟨a', c', rfl, H4⟩
  clear H hHeld hcl
  have H := H4.pull (.there (.here _ _))
  clear H4
  refine hK.out _ _ ?_ (fun hHeld => ?_)
  · exact ⟨H.cell (by first | exact .here _ _ | exact .there (.here _ _) | exact .there (.there (.here _ _)) | exact .there (.there (.there (.here _ _))) | exact .there (.there (.there (.there (.here _ _)))) | exact .there (.there (.there (.there (.there (.here _ _))))) | exact .there (.there (.there (.there (.there (.there (.here _ _)))))) | exact .there (.there (.there (.there (.there (.there (.there (.here _ _))))))) | exact .there (.there (.there (.there (.there (.there (.there (.there (.here _ _)))))))) | exact .there (.there (.there (.there (.there (.there (.there (.there (.there (.here _ _))))))))) | exact .there (.there (.there (.there (.there (.there (.there (.there (.there (.there (.here _ _)))))))))) | exact .there (.there (.there (.there (.there (.there (.there (.there (.there (.there (.there (.here _ _))))))))))) | exact .there (.there (.there (.there (.there (.there (.there (.there (.there (.there (.there (.there (.here _ _)))))))))))) | exact .there (.there (.there (.there (.there (.there (.there (.there (.there (.there (.there (.there (.there (.here _ _)))))))))))))) rfl, H.cell (by first | exact .here _ _ | exact .there (.here _ _) | exact .there (.there (.here _ _)) | exact .there (.there (.there (.here _ _))) | exact .there (.there (.there (.there (.here _ _)))) | exact .there (.there (.there (.there (.there (.here _ _))))) | exact .there (.there (.there (.there (.there (.there (.here _ _)))))) | exact .there (.there (.there (.there (.there (.there (.there (.here _ _))))))) | exact .there (.there (.there (.there (.there (.there (.there (.there (.here _ _)))))))) | exact .there (.there (.there (.there (.there (.there (.there (.there (.there (.here _ _))))))))) | exact .there (.there (.there (.there (.there (.there (.there (.there (.there (.there (.here _ _)))))))))) | exact .there (.there (.there (.there (.there (.there (.there (.there (.there (.there (.there (.here _ _))))))))))) | exact .there (.there (.there (.there (.there (.there (.there (.there (.there (.there (.there (.there (.here _ _)))))))))))) | exact .there (.there (.there (.there (.there (.there (.there (.there (.there (.there (.there (.there (.there (.here _ _)))))))))))))) rfl, H.cell (by first | exact .here _ _ | exact .there (.here _ _) | exact .there (.there (.here _ _)) | exact .there (.there (.there (.here _ _))) | exact .there (.there (.there (.there (.here _ _)))) | exact .there (.there (.there (.there (.there (.here _ _))))) | exact .there (.there (.there (.there (.there (.there (.here _ _)))))) | exact .there (.there (.there (.there (.there (.there (.there (.here _ _))))))) | exact .there (.there (.there (.there (.there (.there (.there (.there (.here _ _)))))))) | exact .there (.there (.there (.there (.there (.there (.there (.there (.there (.here _ _))))))))) | exact .there (.there (.there (.there (.there (.there (.there (.there (.there (.there (.here _ _)))))))))) | exact .there (.there (.there (.there (.there (.there (.there (.there (.there (.there (.there (.here _ _))))))))))) | exact .there (.there (.there (.there (.there (.there (.there (.there (.there (.there (.there (.there (.here _ _)))))))))))) | exact .there (.there (.there (.there (.there (.there (.there (.there (.there (.there (.there (.there (.there (.here _ _)))))))))))))) rfl⟩
  clear hK K
  ((try simp only [Act.put]); (try simp only [List.setIfInBounds_toArray]); (try simp only [List.set_cons_succ]); (try simp only [List.set_cons_zero]))
  refine takeL (i := 11) rfl (by kernel_rfl) (by kernel_rfl) (by kernel_rfl) (fun _ _ _ _ h => h) hHeld ?_ (Or.inl ⟨by rfl, ?_⟩) ?_
  rotate_left
  · intro W hW
    (try dsimp only at hW)
    first | (go_simp; done) | (go_simp; with_reducible rfl)
  ((try simp only [Act.put]); (try simp only [List.setIfInBounds_toArray]); (try simp only [List.set_cons_succ]); (try simp only [List.set_cons_zero]))
  refine callL (i := 12) rfl (by kernel_rfl) (fun K hK => ?_)
  rw [if_pos (by rfl)]
  have z0 := H.cell (o := 0) (.here _ _) rfl
  have z1 := H.cell (o := 1) (.here _ _) rfl
  have z2 := H.cell (o := 2) (.here _ _) rfl
  have fz := fun o => H.free (.here _ _) o
  go_simp
  have H1 := ((H.setCell 0 (.int .u32 N)).setCell 1 (.int .i64 By)).setCell 2 (.slice a' len c')
  generalize ((w4.setCell ⟨b1, 0, none⟩ (.int .u32 N)).setCell ⟨b1, 1, none⟩ (.int .i64 By)).setCell ⟨b1, 2, none⟩ (.slice a' len c') = w5 at *
  clear H z0 z1 z2 fz hHeld
  have H := H1
  clear H1
  refine hK.out _ _ ?_ (fun hHeld => ?_)
  · exact ⟨H.cell (by first | exact .here _ _ | exact .there (.here _ _) | exact .there (.there (.here _ _)) | exact .there (.there (.there (.here _ _))) | exact .there (.there (.there (.there (.here _ _)))) | exact .there (.there (.there (.there (.there (.here _ _))))) | exact .there (.there (.there (.there (.there (.there (.here _ _)))))) | exact .there (.there (.there (.there (.there (.there (.there (.here _ _))))))) | exact .there (.there (.there (.there (.there (.there (.there (.there (.here _ _)))))))) | exact .there (.there (.there (.there (.there (.there (.there (.there (.there (.here _ _))))))))) | exact .there (.there (.there (.there (.there (.there (.there (.there (.there (.there (.here _ _)))))))))) | exact .there (.there (.there (.there (.there (.there (.there (.there (.there (.there (.there (.here _ _))))))))))) | exact .there (.there (.there (.there (.there (.there (.there (.there (.there (.there (.there (.there (.here _ _)))))))))))) | exact .there (.there (.there (.there (.there (.there (.there (.there (.there (.there (.there (.there (.there (.here _ _)))))))))))))) rfl, H.cell (by first | exact .here _ _ | exact .there (.here _ _) | exact .there (.there (.here _ _)) | exact .there (.there (.there (.here _ _))) | exact .there (.there (.there (.there (.here _ _)))) | exact .there (.there (.there (.there (.there (.here _ _))))) | exact .there (.there (.there (.there (.there (.there (.here _ _)))))) | exact .there (.there (.there (.there (.there (.there (.there (.here _ _))))))) | exact .there (.there (.there (.there (.there (.there (.there (.there (.here _ _)))))))) | exact .there (.there (.there (.there (.there (.there (.there (.there (.there (.here _ _))))))))) | exact .there (.there (.there (.there (.there (.there (.there (.there (.there (.there (.here _ _)))))))))) | exact .there (.there (.there (.there (.there (.there (.there (.there (.there (.there (.there (.here _ _))))))))))) | exact .there (.there (.there (.there (.there (.there (.there (.there (.there (.there (.there (.there (.here _ _)))))))))))) | exact .there (.there (.there (.there (.there (.there (.there (.there (.there (.there (.there (.there (.there (.here _ _)))))))))))))) rfl, H.cell (by first | exact .here _ _ | exact .there (.here _ _) | exact .there (.there (.here _ _)) | exact .there (.there (.there (.here _ _))) | exact .there (.there (.there (.there (.here _ _)))) | exact .there (.there (.there (.there (.there (.here _ _))))) | exact .there (.there (.there (.there (.there (.there (.here _ _)))))) | exact .there (.there (.there (.there (.there (.there (.there (.here _ _))))))) | exact .there (.there (.there (.there (.there (.there (.there (.there (.here _ _)))))))) | exact .there (.there (.there (.there (.there (.there (.there (.there (.there (.here _ _))))))))) | exact .there (.there (.there (.there (.there (.there (.there (.there (.there (.there (.here _ _)))))))))) | exact .there (.there (.there (.there (.there (.there (.there (.there (.there (.there (.there (.here _ _))))))))))) | exact .there (.there (.there (.there (.there (.there (.there (.there (.there (.there (.there (.there (.here _ _)))))))))))) | exact .there (.there (.there (.there (.there (.there (.there (.there (.there (.there (.there (.there (.there (.here _ _)))))))))))))) rfl⟩
  clear hK K
  ((try simp only [Act.put]); (try simp only [List.setIfInBounds_toArray]); (try simp only [List.set_cons_succ]); (try simp only [List.set_cons_zero]))
  refine wpAnyH_done (by kernel_rfl) ?_ _
  have h8 := Lib.hid H
  clear H hHeld
  go_wp2_with fail
  have k0 := h8.out.cell (o := 0) (.here _ _) rfl
  have k1 := h8.out.cell (o := 1) (.here _ _) rfl
  have k2 := h8.out.cell (o := 2) (.here _ _) rfl
  refine bodyPost_ret (v := .agg #[.int .u32 N, .int .i64 By, .slice a' len c']) ?_ rfl ?_
  · simp [results, Try.results10, go_sem, k0, k1, k2]
  · exact ⟨a', c', rfl, h8.out.re (.drop (.same _))⟩
end
end Go.Proofs.Ytaibdcglhibglaa
