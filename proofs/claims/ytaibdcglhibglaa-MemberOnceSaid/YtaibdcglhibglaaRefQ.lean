/- The walks of the reference's Same, Word, Join. -/
import Derived.Test.YtaibdcglhibglaaRefA
import Derived.Test.YtaibdcglhibglaaOwnMore
namespace Go.Proofs.Ytaibdcglhibglaa
open Go.RowKit
set_option linter.unusedVariables false

def RS (q : Nat) (a : Option Addr) (c b : Nat) (x : St) (L : List Pc) : List Pc :=
  refB q x.self x.nodes x.disp x.N x.By (.slice a x.ms.length c) x.gN x.gBy x.owes (.slice (some ⟨b, 0, none⟩) x.nodes.toNat x.nodes.toNat) x.count :: .own 3 1 (.slice a x.ms.length c) x.ms.length (iv x.ms) ::
    .own 4 1 (.slice (some ⟨b, 0, none⟩) x.nodes.toNat x.nodes.toNat) x.nodes.toNat (bv x.nodes.toNat x.ps) :: L

set_option maxHeartbeats 4000000 in
theorem same_c (N By M Cy : Int) (l k : List Int) (a b : Option Addr) (ca cb : Nat) (w : World) (hl : l.length ≤ 1000000) (ha : RdI w a l) (hb : RdI w b k) :
    Calls Try.prog 15 #[.agg #[.int .u32 N, .int .i64 By, .slice a l.length ca], .agg #[.int .u32 M, .int .i64 Cy, .slice b k.length cb]] w fun r w' =>
      r = .returned (.bool (decide (l = k) && decide (N = M ∧ By = Cy))) ∧ Kp no w w' := by
  have H1 := ((SL.start w).alloc [.int .u32 N, .int .i64 By, .slice a l.length ca] 34).alloc [.int .u32 M, .int .i64 Cy, .slice b k.length cb] 34
  rw [World.size_alloc] at H1
  have hin := Lib.hid (fun V (h : Kp no w V) => ints_c a b l k ca cb V hl (ha.no h) (hb.no h))
  have heq := fun V => eql_epoch N By M Cy V
  obtain ⟨e, he⟩ : ∃ e, decide (N = M ∧ By = Cy) = e := ⟨_, rfl⟩
  obtain ⟨e2, he2⟩ : ∃ e, decide (l = k) = e := ⟨_, rfl⟩
  simp only [he] at heq
  simp only [he2] at hin
  rw [he, he2]
  generalize l.length = n1 at *
  generalize k.length = n2 at *
  have hH := Lib.hid H1
  clear H1 ha hb hl he he2
  go_enter Try.func15, Try.ntmps15
  go_wp2_with fail
  generalize (w.alloc (.cells #[.int .u32 N, .int .i64 By, .slice a n1 ca] 34)).alloc (.cells #[.int .u32 M, .int .i64 Cy, .slice b n2 cb] 34) = w2 at *
  generalize w.heap.size + 1 = b2 at *
  generalize w.heap.size = b1 at *
  have c0 := hH.out.cell (b := b1) (o := 0) (by first | exact .here _ _ | exact .there (.here _ _) | exact .there (.there (.here _ _)) | exact .there (.there (.there (.here _ _))) | exact .there (.there (.there (.there (.here _ _)))) | exact .there (.there (.there (.there (.there (.here _ _))))) | exact .there (.there (.there (.there (.there (.there (.here _ _)))))) | exact .there (.there (.there (.there (.there (.there (.there (.here _ _))))))) | exact .there (.there (.there (.there (.there (.there (.there (.there (.here _ _)))))))) | exact .there (.there (.there (.there (.there (.there (.there (.there (.there (.here _ _))))))))) | exact .there (.there (.there (.there (.there (.there (.there (.there (.there (.there (.here _ _)))))))))) | exact .there (.there (.there (.there (.there (.there (.there (.there (.there (.there (.there (.here _ _))))))))))) | exact .there (.there (.there (.there (.there (.there (.there (.there (.there (.there (.there (.there (.here _ _)))))))))))) | exact .there (.there (.there (.there (.there (.there (.there (.there (.there (.there (.there (.there (.there (.here _ _)))))))))))))) rfl
  have c1 := hH.out.cell (b := b1) (o := 1) (by first | exact .here _ _ | exact .there (.here _ _) | exact .there (.there (.here _ _)) | exact .there (.there (.there (.here _ _))) | exact .there (.there (.there (.there (.here _ _)))) | exact .there (.there (.there (.there (.there (.here _ _))))) | exact .there (.there (.there (.there (.there (.there (.here _ _)))))) | exact .there (.there (.there (.there (.there (.there (.there (.here _ _))))))) | exact .there (.there (.there (.there (.there (.there (.there (.there (.here _ _)))))))) | exact .there (.there (.there (.there (.there (.there (.there (.there (.there (.here _ _))))))))) | exact .there (.there (.there (.there (.there (.there (.there (.there (.there (.there (.here _ _)))))))))) | exact .there (.there (.there (.there (.there (.there (.there (.there (.there (.there (.there (.here _ _))))))))))) | exact .there (.there (.there (.there (.there (.there (.there (.there (.there (.there (.there (.there (.here _ _)))))))))))) | exact .there (.there (.there (.there (.there (.there (.there (.there (.there (.there (.there (.there (.there (.here _ _)))))))))))))) rfl
  have c2 := hH.out.cell (b := b1) (o := 2) (by first | exact .here _ _ | exact .there (.here _ _) | exact .there (.there (.here _ _)) | exact .there (.there (.there (.here _ _))) | exact .there (.there (.there (.there (.here _ _)))) | exact .there (.there (.there (.there (.there (.here _ _))))) | exact .there (.there (.there (.there (.there (.there (.here _ _)))))) | exact .there (.there (.there (.there (.there (.there (.there (.here _ _))))))) | exact .there (.there (.there (.there (.there (.there (.there (.there (.here _ _)))))))) | exact .there (.there (.there (.there (.there (.there (.there (.there (.there (.here _ _))))))))) | exact .there (.there (.there (.there (.there (.there (.there (.there (.there (.there (.here _ _)))))))))) | exact .there (.there (.there (.there (.there (.there (.there (.there (.there (.there (.there (.here _ _))))))))))) | exact .there (.there (.there (.there (.there (.there (.there (.there (.there (.there (.there (.there (.here _ _)))))))))))) | exact .there (.there (.there (.there (.there (.there (.there (.there (.there (.there (.there (.there (.there (.here _ _)))))))))))))) rfl
  have d0 := hH.out.cell (b := b2) (o := 0) (by first | exact .here _ _ | exact .there (.here _ _) | exact .there (.there (.here _ _)) | exact .there (.there (.there (.here _ _))) | exact .there (.there (.there (.there (.here _ _)))) | exact .there (.there (.there (.there (.there (.here _ _))))) | exact .there (.there (.there (.there (.there (.there (.here _ _)))))) | exact .there (.there (.there (.there (.there (.there (.there (.here _ _))))))) | exact .there (.there (.there (.there (.there (.there (.there (.there (.here _ _)))))))) | exact .there (.there (.there (.there (.there (.there (.there (.there (.there (.here _ _))))))))) | exact .there (.there (.there (.there (.there (.there (.there (.there (.there (.there (.here _ _)))))))))) | exact .there (.there (.there (.there (.there (.there (.there (.there (.there (.there (.there (.here _ _))))))))))) | exact .there (.there (.there (.there (.there (.there (.there (.there (.there (.there (.there (.there (.here _ _)))))))))))) | exact .there (.there (.there (.there (.there (.there (.there (.there (.there (.there (.there (.there (.there (.here _ _)))))))))))))) rfl
  have d1 := hH.out.cell (b := b2) (o := 1) (by first | exact .here _ _ | exact .there (.here _ _) | exact .there (.there (.here _ _)) | exact .there (.there (.there (.here _ _))) | exact .there (.there (.there (.there (.here _ _)))) | exact .there (.there (.there (.there (.there (.here _ _))))) | exact .there (.there (.there (.there (.there (.there (.here _ _)))))) | exact .there (.there (.there (.there (.there (.there (.there (.here _ _))))))) | exact .there (.there (.there (.there (.there (.there (.there (.there (.here _ _)))))))) | exact .there (.there (.there (.there (.there (.there (.there (.there (.there (.here _ _))))))))) | exact .there (.there (.there (.there (.there (.there (.there (.there (.there (.there (.here _ _)))))))))) | exact .there (.there (.there (.there (.there (.there (.there (.there (.there (.there (.there (.here _ _))))))))))) | exact .there (.there (.there (.there (.there (.there (.there (.there (.there (.there (.there (.there (.here _ _)))))))))))) | exact .there (.there (.there (.there (.there (.there (.there (.there (.there (.there (.there (.there (.there (.here _ _)))))))))))))) rfl
  have d2 := hH.out.cell (b := b2) (o := 2) (by first | exact .here _ _ | exact .there (.here _ _) | exact .there (.there (.here _ _)) | exact .there (.there (.there (.here _ _))) | exact .there (.there (.there (.there (.here _ _)))) | exact .there (.there (.there (.there (.there (.here _ _))))) | exact .there (.there (.there (.there (.there (.there (.here _ _)))))) | exact .there (.there (.there (.there (.there (.there (.there (.here _ _))))))) | exact .there (.there (.there (.there (.there (.there (.there (.there (.here _ _)))))))) | exact .there (.there (.there (.there (.there (.there (.there (.there (.there (.here _ _))))))))) | exact .there (.there (.there (.there (.there (.there (.there (.there (.there (.there (.here _ _)))))))))) | exact .there (.there (.there (.there (.there (.there (.there (.there (.there (.there (.there (.here _ _))))))))))) | exact .there (.there (.there (.there (.there (.there (.there (.there (.there (.there (.there (.there (.here _ _)))))))))))) | exact .there (.there (.there (.there (.there (.there (.there (.there (.there (.there (.there (.there (.there (.here _ _)))))))))))))) rfl
  go_wp2_with fail
  refine (hin.out _ (hH.out.kp (.there (.there (.here _ _))))).mono ?_
  rintro r w' ⟨rfl, nd, rfl⟩
  clear hin
  have hk := Lib.hid ((hH.out.drewN nd).kp (.there (.there (.here _ _))))
  cases e2
  · go_wp2_with fail
    go_ret
    exact ⟨rfl, hk.out⟩
  · go_wp2_with fail
    go_ret
    exact ⟨by simp, hk.out⟩

section
variable {p : Nat} {self nodes disp N By gN gBy count : Int} {s j : Value} {owes : Bool} {L : List Pc} {w : World}
theorem refWord_c (H : SL w (refB p self nodes disp N By s gN gBy owes j count :: L)) :
    Calls Try.prog 46 #[.pointer (some ⟨p, 0, none⟩)] w fun r w' => r = .returned (.tuple #[.int .i64 (if owes = true then By else 0), .bool owes]) ∧ SL w' (refB p self nodes disp N By s gN gBy false j count :: L) := by
  have hH := Lib.hid H
  have g8 := H.cell (o := 8) (.here _ _) rfl
  have g4 := H.cell (o := 4) (.here _ _) rfl
  have fz := fun o => H.free (.here _ _) o
  have h9 := Lib.hid (show SL _ (refB p self nodes disp N By s gN gBy false j count :: L) from H.setCell 8 (.bool false))
  clear H
  go_enter Try.func46, Try.ntmps46
  cases owes
  · go_wp2_with fail
    go_ret2
    exact ⟨rfl, hH.out⟩
  · go_wp2_with fail
    go_ret2
    exact ⟨rfl, h9.out⟩
end

set_option maxHeartbeats 8000000 in
theorem refJoin_c {p : Nat} {a : Option Addr} {c0 b : Nat} (x : St) {L0 : List Pc} {w : World} (H0 : SL w (RS p a c0 b x L0)) (hm : x.ms.length ≤ 1000000) (hms : ∀ i ∈ x.ms, 0 ≤ i ∧ i < x.nodes) (k M Cy n : Int) :
    Calls Try.prog 47 #[.pointer (some ⟨p, 0, none⟩), .int .i64 k, .agg #[.int .u32 M, .int .i64 Cy], .int .i64 n] w fun r w' => r = .returned (.int .i64 (x.join k M Cy n).1) ∧ SL w' (RS p a c0 b (x.join k M Cy n).2 L0) := by
  obtain ⟨self, nodes, disp, N, By, ms, gN, gBy, owes, ps, count⟩ := x
  dsimp only at hm hms
  obtain ⟨X, hX⟩ : ∃ X, St.join ⟨self, nodes, disp, N, By, ms, gN, gBy, owes, ps, count⟩ k M Cy n = X := ⟨_, rfl⟩
  rw [hX]
  unfold St.join at hX
  dsimp only at hX
  have hX' := Lib.hid hX
  clear hX
  have H1 := H0.alloc [.int .u32 M, .int .i64 Cy] 31
  have hin := Lib.hid (fun V (h : SL V [.own 3 1 (.slice a ms.length c0) ms.length (iv ms)]) => refIn_c k ms a c0 V (by omega) (OwnK.rdI (show OwnK V 0 3 1 _ _ (iv ms) from h.ownOf (.here _ _))).2.2)
  have hms' := Lib.hid hms
  obtain ⟨nn, hnn⟩ : ∃ nn, nodes.toNat = nn := ⟨_, rfl⟩
  have hH0 : SL (w.alloc (.cells [.int .u32 M, .int .i64 Cy].toArray 31)) (.blk w.heap.size [.int .u32 M, .int .i64 Cy] 31 :: refB p self nodes disp N By (.slice a ms.length c0) gN gBy owes (.slice (some ⟨b, 0, none⟩) nodes.toNat nodes.toNat) count :: .own 3 1 (.slice a ms.length c0) ms.length (iv ms) :: .own 4 1 (.slice (some ⟨b, 0, none⟩) nodes.toNat nodes.toNat) nodes.toNat (bv nodes.toNat ps) :: L0) := H1
  obtain ⟨mlen, hmlen⟩ : ∃ len, ms.length = len := ⟨_, rfl⟩
  have hback : Hid (∀ V q ps' count', SL V (q :: refB p self nodes disp N By (.slice a mlen c0) gN gBy owes (.slice (some ⟨b, 0, none⟩) nn nn) count' :: .own 3 1 (.slice a mlen c0) mlen (iv ms) :: .own 4 1 (.slice (some ⟨b, 0, none⟩) nn nn) nn (bv nn ps') :: L0) → SL V (RS p a c0 b ⟨self, nodes, disp, N, By, ms, gN, gBy, owes, ps', count'⟩ L0)) := Lib.hid fun V q ps' count' h => by
    subst hmlen hnn
    exact h.re (.drop (.same _))
  have hnn' := Lib.hid hnn
  rw [hmlen] at hin hH0
  rw [hnn] at hH0
  have hH := Lib.hid hH0
  have heq := fun V => neq_epoch N By M Cy V
  obtain ⟨q1, e1⟩ : ∃ q, decide (N = M ∧ By = Cy) = q := ⟨_, rfl⟩
  obtain ⟨q5, e5⟩ : ∃ q, decide (k ∈ ms) = q := ⟨_, rfl⟩
  simp only [e1] at heq
  have e1' := Lib.hid e1
  have e5' := Lib.hid e5
  simp only [e5] at hin
  clear H0 H1 hH0 hm hms hmlen hnn e1 e5
  go_enter Try.func47, Try.ntmps47
  go_wp2_with fail
  generalize w.alloc (.cells #[.int .u32 M, .int .i64 Cy] 31) = w2 at *
  generalize w.heap.size = b1 at *
  have c0' := hH.out.cell (b := b1) (o := 0) (by first | exact .here _ _ | exact .there (.here _ _) | exact .there (.there (.here _ _)) | exact .there (.there (.there (.here _ _))) | exact .there (.there (.there (.there (.here _ _)))) | exact .there (.there (.there (.there (.there (.here _ _))))) | exact .there (.there (.there (.there (.there (.there (.here _ _)))))) | exact .there (.there (.there (.there (.there (.there (.there (.here _ _))))))) | exact .there (.there (.there (.there (.there (.there (.there (.there (.here _ _)))))))) | exact .there (.there (.there (.there (.there (.there (.there (.there (.there (.here _ _))))))))) | exact .there (.there (.there (.there (.there (.there (.there (.there (.there (.there (.here _ _)))))))))) | exact .there (.there (.there (.there (.there (.there (.there (.there (.there (.there (.there (.here _ _))))))))))) | exact .there (.there (.there (.there (.there (.there (.there (.there (.there (.there (.there (.there (.here _ _)))))))))))) | exact .there (.there (.there (.there (.there (.there (.there (.there (.there (.there (.there (.there (.there (.here _ _)))))))))))))) rfl
  have c1' := hH.out.cell (b := b1) (o := 1) (by first | exact .here _ _ | exact .there (.here _ _) | exact .there (.there (.here _ _)) | exact .there (.there (.there (.here _ _))) | exact .there (.there (.there (.there (.here _ _)))) | exact .there (.there (.there (.there (.there (.here _ _))))) | exact .there (.there (.there (.there (.there (.there (.here _ _)))))) | exact .there (.there (.there (.there (.there (.there (.there (.here _ _))))))) | exact .there (.there (.there (.there (.there (.there (.there (.there (.here _ _)))))))) | exact .there (.there (.there (.there (.there (.there (.there (.there (.there (.here _ _))))))))) | exact .there (.there (.there (.there (.there (.there (.there (.there (.there (.there (.here _ _)))))))))) | exact .there (.there (.there (.there (.there (.there (.there (.there (.there (.there (.there (.here _ _))))))))))) | exact .there (.there (.there (.there (.there (.there (.there (.there (.there (.there (.there (.there (.here _ _)))))))))))) | exact .there (.there (.there (.there (.there (.there (.there (.there (.there (.there (.there (.there (.there (.here _ _)))))))))))))) rfl
  have p0 := hH.out.cell (b := p) (o := 0) (by first | exact .here _ _ | exact .there (.here _ _) | exact .there (.there (.here _ _)) | exact .there (.there (.there (.here _ _))) | exact .there (.there (.there (.there (.here _ _)))) | exact .there (.there (.there (.there (.there (.here _ _))))) | exact .there (.there (.there (.there (.there (.there (.here _ _)))))) | exact .there (.there (.there (.there (.there (.there (.there (.here _ _))))))) | exact .there (.there (.there (.there (.there (.there (.there (.there (.here _ _)))))))) | exact .there (.there (.there (.there (.there (.there (.there (.there (.there (.here _ _))))))))) | exact .there (.there (.there (.there (.there (.there (.there (.there (.there (.there (.here _ _)))))))))) | exact .there (.there (.there (.there (.there (.there (.there (.there (.there (.there (.there (.here _ _))))))))))) | exact .there (.there (.there (.there (.there (.there (.there (.there (.there (.there (.there (.there (.here _ _)))))))))))) | exact .there (.there (.there (.there (.there (.there (.there (.there (.there (.there (.there (.there (.there (.here _ _)))))))))))))) rfl
  have p3 := hH.out.cell (b := p) (o := 3) (by first | exact .here _ _ | exact .there (.here _ _) | exact .there (.there (.here _ _)) | exact .there (.there (.there (.here _ _))) | exact .there (.there (.there (.there (.here _ _)))) | exact .there (.there (.there (.there (.there (.here _ _))))) | exact .there (.there (.there (.there (.there (.there (.here _ _)))))) | exact .there (.there (.there (.there (.there (.there (.there (.here _ _))))))) | exact .there (.there (.there (.there (.there (.there (.there (.there (.here _ _)))))))) | exact .there (.there (.there (.there (.there (.there (.there (.there (.there (.here _ _))))))))) | exact .there (.there (.there (.there (.there (.there (.there (.there (.there (.there (.here _ _)))))))))) | exact .there (.there (.there (.there (.there (.there (.there (.there (.there (.there (.there (.here _ _))))))))))) | exact .there (.there (.there (.there (.there (.there (.there (.there (.there (.there (.there (.there (.here _ _)))))))))))) | exact .there (.there (.there (.there (.there (.there (.there (.there (.there (.there (.there (.there (.there (.here _ _)))))))))))))) rfl
  have p4 := hH.out.cell (b := p) (o := 4) (by first | exact .here _ _ | exact .there (.here _ _) | exact .there (.there (.here _ _)) | exact .there (.there (.there (.here _ _))) | exact .there (.there (.there (.there (.here _ _)))) | exact .there (.there (.there (.there (.there (.here _ _))))) | exact .there (.there (.there (.there (.there (.there (.here _ _)))))) | exact .there (.there (.there (.there (.there (.there (.there (.here _ _))))))) | exact .there (.there (.there (.there (.there (.there (.there (.there (.here _ _)))))))) | exact .there (.there (.there (.there (.there (.there (.there (.there (.there (.here _ _))))))))) | exact .there (.there (.there (.there (.there (.there (.there (.there (.there (.there (.here _ _)))))))))) | exact .there (.there (.there (.there (.there (.there (.there (.there (.there (.there (.there (.here _ _))))))))))) | exact .there (.there (.there (.there (.there (.there (.there (.there (.there (.there (.there (.there (.here _ _)))))))))))) | exact .there (.there (.there (.there (.there (.there (.there (.there (.there (.there (.there (.there (.there (.here _ _)))))))))))))) rfl
  cases q1
  · have hfin := Lib.hid (show X = (241, _) from by rw [← hX'.out, if_neg (fun h => absurd ⟨h.1.1.symm, h.1.2.symm⟩ (of_decide_eq_false e1'.out))])
    clear hX' hin
    go_quiet (fail)
    have H3 := Lib.hid (hH.out.drewN nq)
    go_wp2_with fail
    go_ret
    exact ⟨by rw [hfin.out]; rfl, by rw [hfin.out]; exact hback.out _ _ _ _ H3.out⟩
  by_cases h2 : Cy = self
  · have h2b : (Cy != self) = false := by simpa using h2
    have hX2 := hX'.out
    rw [if_pos ⟨⟨(of_decide_eq_true e1'.out).1.symm, (of_decide_eq_true e1'.out).2.symm⟩, h2⟩] at hX2
    have hX3 := Lib.hid hX2
    clear h2 hX2 hX'
    go_quiet (fail)
    have H3 := Lib.hid (hH.out.drewN nq)
    generalize w2.drewN nq = w3 at *
    clear hH c0' c1' p0 p3 p4 heq h2b
    have p5 := H3.out.cell (b := p) (o := 5) (by first | exact .here _ _ | exact .there (.here _ _) | exact .there (.there (.here _ _)) | exact .there (.there (.there (.here _ _))) | exact .there (.there (.there (.there (.here _ _)))) | exact .there (.there (.there (.there (.there (.here _ _))))) | exact .there (.there (.there (.there (.there (.there (.here _ _)))))) | exact .there (.there (.there (.there (.there (.there (.there (.here _ _))))))) | exact .there (.there (.there (.there (.there (.there (.there (.there (.here _ _)))))))) | exact .there (.there (.there (.there (.there (.there (.there (.there (.there (.here _ _))))))))) | exact .there (.there (.there (.there (.there (.there (.there (.there (.there (.there (.here _ _)))))))))) | exact .there (.there (.there (.there (.there (.there (.there (.there (.there (.there (.there (.here _ _))))))))))) | exact .there (.there (.there (.there (.there (.there (.there (.there (.there (.there (.there (.there (.here _ _)))))))))))) | exact .there (.there (.there (.there (.there (.there (.there (.there (.there (.there (.there (.there (.there (.here _ _)))))))))))))) rfl
    have hc := Lib.hid (hin.out _ (H3.out.re (.step (.there (.there (.here _ _))) (.done _))))
    clear hin
    go_wp2_with fail
    refine hc.out.mono ?_
    rintro r w' ⟨rfl, rfl⟩
    clear hc
    cases q5
    · have hfin := Lib.hid (show X = (240, _) from by rw [← hX3.out, if_pos (.inr (of_decide_eq_false e5'.out))])
      clear hX3
      go_wp2_with fail
      go_ret
      exact ⟨by rw [hfin.out]; rfl, by rw [hfin.out]; exact hback.out _ _ _ _ H3.out⟩
    by_cases h3 : n < 0
    · have hfin := Lib.hid (show X = (240, _) from by rw [← hX3.out, if_pos (.inl h3)])
      clear hX3
      go_wp2_with fail
      go_ret
      exact ⟨by rw [hfin.out]; rfl, by rw [hfin.out]; exact hback.out _ _ _ _ H3.out⟩
    have h3' : 0 ≤ n := by omega
    have hX4 := hX3.out
    rw [if_neg (by rintro (h | h); exact absurd h (by omega); exact h (of_decide_eq_true e5'.out))] at hX4
    have hk := hms'.out k (of_decide_eq_true e5'.out)
    obtain ⟨kk, rfl⟩ : ∃ kk : Nat, k = kk := ⟨k.toNat, by omega⟩
    have hkn : kk < nn := by rw [← hnn'.out]; omega
    obtain ⟨hc0, hf0⟩ := own_cell (H3.out.ownOf (show Pull _ (.own 4 1 (.slice (some ⟨b, 0, none⟩) nn nn) nn (bv nn ps)) _ from (by first | exact .here _ _ | exact .there (.here _ _) | exact .there (.there (.here _ _)) | exact .there (.there (.there (.here _ _))) | exact .there (.there (.there (.there (.here _ _)))) | exact .there (.there (.there (.there (.there (.here _ _))))) | exact .there (.there (.there (.there (.there (.there (.here _ _)))))) | exact .there (.there (.there (.there (.there (.there (.there (.here _ _))))))) | exact .there (.there (.there (.there (.there (.there (.there (.there (.here _ _)))))))) | exact .there (.there (.there (.there (.there (.there (.there (.there (.there (.here _ _))))))))) | exact .there (.there (.there (.there (.there (.there (.there (.there (.there (.there (.here _ _)))))))))) | exact .there (.there (.there (.there (.there (.there (.there (.there (.there (.there (.there (.here _ _))))))))))) | exact .there (.there (.there (.there (.there (.there (.there (.there (.there (.there (.there (.there (.here _ _)))))))))))) | exact .there (.there (.there (.there (.there (.there (.there (.there (.there (.there (.there (.there (.there (.here _ _)))))))))))))))) hkn
    have H5 := own_store (H3.out.pull (.there (.there (.there (.here _ _))))) kk (.bool true)
    rw [bv_set] at H5
    obtain ⟨ps', hps⟩ : ∃ ps' : Int → Bool, (fun y => ps y || y == (kk : Int)) = ps' := ⟨_, rfl⟩
    rw [hps] at H5 hX4
    have hX5 := Lib.hid hX4
    have H6 := Lib.hid (H5.re (.step (.there (.here _ _)) (.step (.there (.here _ _)) (.step (.there (.here _ _)) (.same _)))))
    have p9 := H3.out.cell (b := p) (o := 9) (by first | exact .here _ _ | exact .there (.here _ _) | exact .there (.there (.here _ _)) | exact .there (.there (.there (.here _ _))) | exact .there (.there (.there (.there (.here _ _)))) | exact .there (.there (.there (.there (.there (.here _ _))))) | exact .there (.there (.there (.there (.there (.there (.here _ _)))))) | exact .there (.there (.there (.there (.there (.there (.there (.here _ _))))))) | exact .there (.there (.there (.there (.there (.there (.there (.there (.here _ _)))))))) | exact .there (.there (.there (.there (.there (.there (.there (.there (.there (.here _ _))))))))) | exact .there (.there (.there (.there (.there (.there (.there (.there (.there (.there (.here _ _)))))))))) | exact .there (.there (.there (.there (.there (.there (.there (.there (.there (.there (.there (.here _ _))))))))))) | exact .there (.there (.there (.there (.there (.there (.there (.there (.there (.there (.there (.there (.here _ _)))))))))))) | exact .there (.there (.there (.there (.there (.there (.there (.there (.there (.there (.there (.there (.there (.here _ _)))))))))))))) rfl
    have d2 := H6.out.cell (b := p) (o := 2) (by first | exact .here _ _ | exact .there (.here _ _) | exact .there (.there (.here _ _)) | exact .there (.there (.there (.here _ _))) | exact .there (.there (.there (.there (.here _ _)))) | exact .there (.there (.there (.there (.there (.here _ _))))) | exact .there (.there (.there (.there (.there (.there (.here _ _)))))) | exact .there (.there (.there (.there (.there (.there (.there (.here _ _))))))) | exact .there (.there (.there (.there (.there (.there (.there (.there (.here _ _)))))))) | exact .there (.there (.there (.there (.there (.there (.there (.there (.there (.here _ _))))))))) | exact .there (.there (.there (.there (.there (.there (.there (.there (.there (.there (.here _ _)))))))))) | exact .there (.there (.there (.there (.there (.there (.there (.there (.there (.there (.there (.here _ _))))))))))) | exact .there (.there (.there (.there (.there (.there (.there (.there (.there (.there (.there (.there (.here _ _)))))))))))) | exact .there (.there (.there (.there (.there (.there (.there (.there (.there (.there (.there (.there (.there (.here _ _)))))))))))))) rfl
    have d10 := H6.out.cell (b := p) (o := 10) (by first | exact .here _ _ | exact .there (.here _ _) | exact .there (.there (.here _ _)) | exact .there (.there (.there (.here _ _))) | exact .there (.there (.there (.there (.here _ _)))) | exact .there (.there (.there (.there (.there (.here _ _))))) | exact .there (.there (.there (.there (.there (.there (.here _ _)))))) | exact .there (.there (.there (.there (.there (.there (.there (.here _ _))))))) | exact .there (.there (.there (.there (.there (.there (.there (.there (.here _ _)))))))) | exact .there (.there (.there (.there (.there (.there (.there (.there (.there (.here _ _))))))))) | exact .there (.there (.there (.there (.there (.there (.there (.there (.there (.there (.here _ _)))))))))) | exact .there (.there (.there (.there (.there (.there (.there (.there (.there (.there (.there (.here _ _))))))))))) | exact .there (.there (.there (.there (.there (.there (.there (.there (.there (.there (.there (.there (.here _ _)))))))))))) | exact .there (.there (.there (.there (.there (.there (.there (.there (.there (.there (.there (.there (.there (.here _ _)))))))))))))) rfl
    have fz := fun o => H6.out.free (b := p) (by first | exact .here _ _ | exact .there (.here _ _) | exact .there (.there (.here _ _)) | exact .there (.there (.there (.here _ _))) | exact .there (.there (.there (.there (.here _ _)))) | exact .there (.there (.there (.there (.there (.here _ _))))) | exact .there (.there (.there (.there (.there (.there (.here _ _)))))) | exact .there (.there (.there (.there (.there (.there (.there (.here _ _))))))) | exact .there (.there (.there (.there (.there (.there (.there (.there (.here _ _)))))))) | exact .there (.there (.there (.there (.there (.there (.there (.there (.there (.here _ _))))))))) | exact .there (.there (.there (.there (.there (.there (.there (.there (.there (.there (.here _ _)))))))))) | exact .there (.there (.there (.there (.there (.there (.there (.there (.there (.there (.there (.here _ _))))))))))) | exact .there (.there (.there (.there (.there (.there (.there (.there (.there (.there (.there (.there (.here _ _)))))))))))) | exact .there (.there (.there (.there (.there (.there (.there (.there (.there (.there (.there (.there (.there (.here _ _)))))))))))))) o
    clear hX4 hX3 H5 hps H3 h3 hk
    by_cases h6 : (kk : Int) = disp
    · have h6b : ((kk : Int) == disp) = true := by simpa using h6
      have hfin := hX5.out
      rw [if_pos h6] at hfin
      have hfin' := Lib.hid hfin
      have H7 := Lib.hid ((H6.out.pull (.there (.here _ _))).setCell 10 (.int .i64 n))
      clear hX5 hfin h6
      go_wp2_with fail
      go_ret
      exact ⟨by rw [← hfin'.out]; rfl, by rw [← hfin'.out]; exact hback.out _ _ _ _ (H7.out.re (.step (.there (.here _ _)) (.same _)))⟩
    · have h6b : ((kk : Int) == disp) = false := by simpa using h6
      have hfin := hX5.out
      rw [if_neg h6] at hfin
      have hfin' := Lib.hid hfin
      clear hX5 hfin h6
      go_wp2_with fail
      go_ret
      exact ⟨by rw [← hfin'.out]; rfl, by rw [← hfin'.out]; exact hback.out _ _ _ _ H6.out⟩
  · have h2b : (Cy != self) = true := by simpa using h2
    have hfin := Lib.hid (show X = (241, _) from by rw [← hX'.out, if_neg (fun h => h2 h.2)])
    clear hX' hin h2
    go_quiet (fail)
    have H3 := Lib.hid (hH.out.drewN nq)
    go_wp2_with fail
    go_ret
    exact ⟨by rw [hfin.out]; rfl, by rw [hfin.out]; exact hback.out _ _ _ _ H3.out⟩
end Go.Proofs.Ytaibdcglhibglaa
