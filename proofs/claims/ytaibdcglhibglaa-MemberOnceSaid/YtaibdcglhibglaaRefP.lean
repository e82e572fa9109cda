/- The walk of the reference's Propose. -/
import Derived.Test.YtaibdcglhibglaaRefO
namespace Go.Proofs.Ytaibdcglhibglaa
open Go.RowKit
set_option linter.unusedVariables false

set_option maxHeartbeats 16000000 in
theorem refPropose_no {p : Nat} {a : Option Addr} {c0 b : Nat} (x : St) {L : List Pc} {w : World} (H : SL w (RS p a c0 b x L)) (hm : x.ms.length ≤ 1000000) (g : Option Addr) (c : Nat) (l : List Int) (hl : l.length ≤ 1000000) (hr : ∀ V, SL V L → RdI V g l) (hcan : x.can l = false) :
    Calls Try.prog 44 #[.pointer (some ⟨p, 0, none⟩), .slice g l.length c] w fun r w' => r = .returned (.tuple #[.agg #[.int .u32 0, .int .i64 0, .slice none 0 0], .bool false]) ∧ SL w' (RS p a c0 b x L) := by
  obtain ⟨self, nodes, disp, N, By, ms, gN, gBy, owes, ps, count⟩ := x
  dsimp only at hm
  unfold St.can at hcan
  dsimp only at hcan
  have hl' := Lib.hid hl
  have H1 := H.alloc [.int .u32 0, .int .i64 0, .slice none 0 0] 34
  have hri := Lib.hid (fun V (h : SL V L) => refNodes_c l nodes g c V hl (hr V h))
  have hr0 : Hid (risingI l nodes = true → ∃ b o, g = some ⟨b, o, none⟩ ∧ ∀ V, SL V L → V.cell? ⟨b, o, none⟩ = some (.int .i64 (l.getD 0 0))) := Lib.hid (fun h => by
    obtain ⟨b, o, h1, h2⟩ := hr w H.tail.tail.tail 0 (rising_pos h)
    refine ⟨b, o, h1, fun V hk => ?_⟩
    obtain ⟨b', o', h3, h4⟩ := hr V hk 0 (rising_pos h)
    rw [h1] at h3
    cases h3
    exact h4)
  have hpos : Hid (risingI l nodes = true → 0 < l.length) := Lib.hid rising_pos
  have heq := fun V => eql_epoch gN gBy N By V
  have hel := Lib.hid (fun V (h : SL V L) (h2 : SL V [.own 3 1 (.slice a ms.length c0) ms.length (iv ms)]) => ints_c g a l ms c c0 V hl (hr V h) (OwnK.rdI (show OwnK V 0 3 1 _ _ (iv ms) from h2.ownOf (.here _ _))).2.2)
  obtain ⟨len, hlen⟩ : ∃ len, l.length = len := ⟨_, rfl⟩
  obtain ⟨mlen, hmlen⟩ : ∃ len, ms.length = len := ⟨_, rfl⟩
  obtain ⟨J, hJ⟩ : ∃ J, Value.slice (some ⟨b, 0, none⟩) nodes.toNat nodes.toNat = J := ⟨_, rfl⟩
  obtain ⟨L2, hL2⟩ : ∃ L2, Pc.own 4 1 (.slice (some ⟨b, 0, none⟩) nodes.toNat nodes.toNat) nodes.toNat (bv nodes.toNat ps) :: L = L2 := ⟨_, rfl⟩
  have hH0 : SL (w.alloc (.cells [.int .u32 0, .int .i64 0, .slice none 0 0].toArray 34)) (.blk w.heap.size [.int .u32 0, .int .i64 0, .slice none 0 0] 34 :: refB p self nodes disp N By (.slice a ms.length c0) gN gBy owes (.slice (some ⟨b, 0, none⟩) nodes.toNat nodes.toNat) count :: .own 3 1 (.slice a ms.length c0) ms.length (iv ms) :: .own 4 1 (.slice (some ⟨b, 0, none⟩) nodes.toNat nodes.toNat) nodes.toNat (bv nodes.toNat ps) :: L) := H1
  have hback : Hid (∀ V q, SL V (q :: refB p self nodes disp N By (.slice a mlen c0) gN gBy owes J count :: .own 3 1 (.slice a mlen c0) mlen (iv ms) :: L2) → SL V (RS p a c0 b ⟨self, nodes, disp, N, By, ms, gN, gBy, owes, ps, count⟩ L)) := Lib.hid fun V q h => by
    subst hmlen hJ hL2
    exact h.re (.drop (.same _))
  have hLt : Hid (∀ V, SL V L2 → SL V L) := Lib.hid fun V h => by subst hL2; exact h.tail
  rw [hL2, hJ] at hH0
  rw [hlen] at hri hpos hel ⊢
  rw [hmlen] at hel hH0
  have hH := Lib.hid hH0
  obtain ⟨q1, e1⟩ : ∃ q, risingI l nodes = q := ⟨_, rfl⟩
  obtain ⟨y, e2⟩ : ∃ y, l.getD 0 0 = y := ⟨_, rfl⟩
  obtain ⟨q4, e4⟩ : ∃ q, decide (gN = N ∧ gBy = By) = q := ⟨_, rfl⟩
  obtain ⟨q5, e5⟩ : ∃ q, decide (l = ms) = q := ⟨_, rfl⟩
  rw [e1] at hri hr0 hpos hcan
  rw [e2] at hr0 hcan
  simp only [e4] at heq
  rw [e4, e5] at hcan
  simp only [e5] at hel
  have hcan' := Lib.hid hcan
  clear H H1 hH0 hr hl hm hcan hlen hmlen e1 e2 e4 e5 hJ hL2
  have p0 := hH.out.cell (b := p) (o := 0) (by first | exact .here _ _ | exact .there (.here _ _) | exact .there (.there (.here _ _)) | exact .there (.there (.there (.here _ _))) | exact .there (.there (.there (.there (.here _ _)))) | exact .there (.there (.there (.there (.there (.here _ _))))) | exact .there (.there (.there (.there (.there (.there (.here _ _)))))) | exact .there (.there (.there (.there (.there (.there (.there (.here _ _))))))) | exact .there (.there (.there (.there (.there (.there (.there (.there (.here _ _)))))))) | exact .there (.there (.there (.there (.there (.there (.there (.there (.there (.here _ _))))))))) | exact .there (.there (.there (.there (.there (.there (.there (.there (.there (.there (.here _ _)))))))))) | exact .there (.there (.there (.there (.there (.there (.there (.there (.there (.there (.there (.here _ _))))))))))) | exact .there (.there (.there (.there (.there (.there (.there (.there (.there (.there (.there (.there (.here _ _)))))))))))) | exact .there (.there (.there (.there (.there (.there (.there (.there (.there (.there (.there (.there (.there (.here _ _)))))))))))))) rfl
  have p1 := hH.out.cell (b := p) (o := 1) (by first | exact .here _ _ | exact .there (.here _ _) | exact .there (.there (.here _ _)) | exact .there (.there (.there (.here _ _))) | exact .there (.there (.there (.there (.here _ _)))) | exact .there (.there (.there (.there (.there (.here _ _))))) | exact .there (.there (.there (.there (.there (.there (.here _ _)))))) | exact .there (.there (.there (.there (.there (.there (.there (.here _ _))))))) | exact .there (.there (.there (.there (.there (.there (.there (.there (.here _ _)))))))) | exact .there (.there (.there (.there (.there (.there (.there (.there (.there (.here _ _))))))))) | exact .there (.there (.there (.there (.there (.there (.there (.there (.there (.there (.here _ _)))))))))) | exact .there (.there (.there (.there (.there (.there (.there (.there (.there (.there (.there (.here _ _))))))))))) | exact .there (.there (.there (.there (.there (.there (.there (.there (.there (.there (.there (.there (.here _ _)))))))))))) | exact .there (.there (.there (.there (.there (.there (.there (.there (.there (.there (.there (.there (.there (.here _ _)))))))))))))) rfl
  have p3 := hH.out.cell (b := p) (o := 3) (by first | exact .here _ _ | exact .there (.here _ _) | exact .there (.there (.here _ _)) | exact .there (.there (.there (.here _ _))) | exact .there (.there (.there (.there (.here _ _)))) | exact .there (.there (.there (.there (.there (.here _ _))))) | exact .there (.there (.there (.there (.there (.there (.here _ _)))))) | exact .there (.there (.there (.there (.there (.there (.there (.here _ _))))))) | exact .there (.there (.there (.there (.there (.there (.there (.there (.here _ _)))))))) | exact .there (.there (.there (.there (.there (.there (.there (.there (.there (.here _ _))))))))) | exact .there (.there (.there (.there (.there (.there (.there (.there (.there (.there (.here _ _)))))))))) | exact .there (.there (.there (.there (.there (.there (.there (.there (.there (.there (.there (.here _ _))))))))))) | exact .there (.there (.there (.there (.there (.there (.there (.there (.there (.there (.there (.there (.here _ _)))))))))))) | exact .there (.there (.there (.there (.there (.there (.there (.there (.there (.there (.there (.there (.there (.here _ _)))))))))))))) rfl
  have p4 := hH.out.cell (b := p) (o := 4) (by first | exact .here _ _ | exact .there (.here _ _) | exact .there (.there (.here _ _)) | exact .there (.there (.there (.here _ _))) | exact .there (.there (.there (.there (.here _ _)))) | exact .there (.there (.there (.there (.there (.here _ _))))) | exact .there (.there (.there (.there (.there (.there (.here _ _)))))) | exact .there (.there (.there (.there (.there (.there (.there (.here _ _))))))) | exact .there (.there (.there (.there (.there (.there (.there (.there (.here _ _)))))))) | exact .there (.there (.there (.there (.there (.there (.there (.there (.there (.here _ _))))))))) | exact .there (.there (.there (.there (.there (.there (.there (.there (.there (.there (.here _ _)))))))))) | exact .there (.there (.there (.there (.there (.there (.there (.there (.there (.there (.there (.here _ _))))))))))) | exact .there (.there (.there (.there (.there (.there (.there (.there (.there (.there (.there (.there (.here _ _)))))))))))) | exact .there (.there (.there (.there (.there (.there (.there (.there (.there (.there (.there (.there (.there (.here _ _)))))))))))))) rfl
  have p5 := hH.out.cell (b := p) (o := 5) (by first | exact .here _ _ | exact .there (.here _ _) | exact .there (.there (.here _ _)) | exact .there (.there (.there (.here _ _))) | exact .there (.there (.there (.there (.here _ _)))) | exact .there (.there (.there (.there (.there (.here _ _))))) | exact .there (.there (.there (.there (.there (.there (.here _ _)))))) | exact .there (.there (.there (.there (.there (.there (.there (.here _ _))))))) | exact .there (.there (.there (.there (.there (.there (.there (.there (.here _ _)))))))) | exact .there (.there (.there (.there (.there (.there (.there (.there (.there (.here _ _))))))))) | exact .there (.there (.there (.there (.there (.there (.there (.there (.there (.there (.here _ _)))))))))) | exact .there (.there (.there (.there (.there (.there (.there (.there (.there (.there (.there (.here _ _))))))))))) | exact .there (.there (.there (.there (.there (.there (.there (.there (.there (.there (.there (.there (.here _ _)))))))))))) | exact .there (.there (.there (.there (.there (.there (.there (.there (.there (.there (.there (.there (.there (.here _ _)))))))))))))) rfl
  have p6 := hH.out.cell (b := p) (o := 6) (by first | exact .here _ _ | exact .there (.here _ _) | exact .there (.there (.here _ _)) | exact .there (.there (.there (.here _ _))) | exact .there (.there (.there (.there (.here _ _)))) | exact .there (.there (.there (.there (.there (.here _ _))))) | exact .there (.there (.there (.there (.there (.there (.here _ _)))))) | exact .there (.there (.there (.there (.there (.there (.there (.here _ _))))))) | exact .there (.there (.there (.there (.there (.there (.there (.there (.here _ _)))))))) | exact .there (.there (.there (.there (.there (.there (.there (.there (.there (.here _ _))))))))) | exact .there (.there (.there (.there (.there (.there (.there (.there (.there (.there (.here _ _)))))))))) | exact .there (.there (.there (.there (.there (.there (.there (.there (.there (.there (.there (.here _ _))))))))))) | exact .there (.there (.there (.there (.there (.there (.there (.there (.there (.there (.there (.there (.here _ _)))))))))))) | exact .there (.there (.there (.there (.there (.there (.there (.there (.there (.there (.there (.there (.there (.here _ _)))))))))))))) rfl
  have p7 := hH.out.cell (b := p) (o := 7) (by first | exact .here _ _ | exact .there (.here _ _) | exact .there (.there (.here _ _)) | exact .there (.there (.there (.here _ _))) | exact .there (.there (.there (.there (.here _ _)))) | exact .there (.there (.there (.there (.there (.here _ _))))) | exact .there (.there (.there (.there (.there (.there (.here _ _)))))) | exact .there (.there (.there (.there (.there (.there (.there (.here _ _))))))) | exact .there (.there (.there (.there (.there (.there (.there (.there (.here _ _)))))))) | exact .there (.there (.there (.there (.there (.there (.there (.there (.there (.here _ _))))))))) | exact .there (.there (.there (.there (.there (.there (.there (.there (.there (.there (.here _ _)))))))))) | exact .there (.there (.there (.there (.there (.there (.there (.there (.there (.there (.there (.here _ _))))))))))) | exact .there (.there (.there (.there (.there (.there (.there (.there (.there (.there (.there (.there (.here _ _)))))))))))) | exact .there (.there (.there (.there (.there (.there (.there (.there (.there (.there (.there (.there (.there (.here _ _)))))))))))))) rfl
  go_enter Try.func44, Try.ntmps44
  go_wp2_with fail
  generalize w.alloc (.cells #[.int .u32 0, .int .i64 0, .slice none 0 0] 34) = w2 at *
  generalize w.heap.size = b1 at *
  refine (hri.out _ (hLt.out _ hH.out.tail.tail.tail)).mono ?_
  rintro r w' ⟨rfl, rfl⟩
  clear hri
  go_wp2_with fail
  have hfin : Hid (∀ (V : World), SL V (.blk b1 [.int .u32 0, .int .i64 0, .slice none 0 0] 34 :: refB p self nodes disp N By (.slice a mlen c0) gN gBy owes J count :: .own 3 1 (.slice a mlen c0) mlen (iv ms) :: L2) →
      SL (((V.setCell ⟨b1, 0, none⟩ (.int .u32 0)).setCell ⟨b1, 1, none⟩ (.int .i64 0)).setCell ⟨b1, 2, none⟩ (.slice none 0 0)) (.blk b1 [.int .u32 0, .int .i64 0, .slice none 0 0] 34 :: refB p self nodes disp N By (.slice a mlen c0) gN gBy owes J count :: .own 3 1 (.slice a mlen c0) mlen (iv ms) :: L2)) := Lib.hid fun V h => ((h.setCell 0 (.int .u32 0)).setCell 1 (.int .i64 0)).setCell 2 (.slice none 0 0)
  have way : Hid (q1 = false ∨ (q1 = true ∧ ¬ y = self) ∨ (q1 = true ∧ y = self ∧ gN = 4294967295) ∨ (q1 = true ∧ y = self ∧ ¬ gN = 4294967295 ∧ q4 = true ∧ q5 = true)) := Lib.hid (by
    have h := hcan'.out
    cases q1
    · exact .inl rfl
    · by_cases h1 : y = self
      · by_cases h2 : gN = 4294967295
        · exact .inr (.inr (.inl ⟨rfl, h1, h2⟩))
        · simp [h1, h2] at h
          exact .inr (.inr (.inr ⟨rfl, h1, h2, h.1, h.2⟩))
      · exact .inr (.inl ⟨rfl, h1⟩))
  clear hcan'
  rcases way.out with rfl | ⟨rfl, h1⟩ | ⟨rfl, h1, h2⟩ | ⟨rfl, h1, h2, rfl, rfl⟩
  · clear way
    go_quiet (fail)
    have H3 := hH.out.drewN nq
    generalize w2.drewN nq = w3 at *
    have z0 := H3.cell (b := b1) (o := 0) (.here _ _) rfl
    have z1 := H3.cell (b := b1) (o := 1) (.here _ _) rfl
    have z2 := H3.cell (b := b1) (o := 2) (.here _ _) rfl
    have fz := fun o => H3.free (b := b1) (.here _ _) o
    have h8 := Lib.hid (hfin.out _ H3)
    clear H3 hfin
    go_wp2_with fail
    generalize ((w3.setCell ⟨b1, 0, none⟩ (.int .u32 0)).setCell ⟨b1, 1, none⟩ (.int .i64 0)).setCell ⟨b1, 2, none⟩ (.slice none 0 0) = w5 at *
    have k0 := h8.out.cell (b := b1) (o := 0) (.here _ _) rfl
    have k1 := h8.out.cell (b := b1) (o := 1) (.here _ _) rfl
    have k2 := h8.out.cell (b := b1) (o := 2) (.here _ _) rfl
    refine bodyPost_ret (v := .tuple #[.agg #[.int .u32 0, .int .i64 0, .slice none 0 0], .bool false]) ?_ rfl ⟨rfl, ?_⟩
    · simp [results, Try.results44, go_sem, k0, k1, k2]
    · exact hback.out _ _ h8.out
  · have h1b : (y != self) = true := by simpa using h1
    obtain ⟨b', o', rfl, hc⟩ := hr0.out rfl
    have hcc := hc w2 (hLt.out _ hH.out.tail.tail.tail)
    have hpp := hpos.out rfl
    clear hc hr0 way h1
    go_quiet (fail)
    have H3 := hH.out.drewN nq
    generalize w2.drewN nq = w3 at *
    have z0 := H3.cell (b := b1) (o := 0) (.here _ _) rfl
    have z1 := H3.cell (b := b1) (o := 1) (.here _ _) rfl
    have z2 := H3.cell (b := b1) (o := 2) (.here _ _) rfl
    have fz := fun o => H3.free (b := b1) (.here _ _) o
    have h8 := Lib.hid (hfin.out _ H3)
    clear H3 hfin
    go_wp2_with fail
    generalize ((w3.setCell ⟨b1, 0, none⟩ (.int .u32 0)).setCell ⟨b1, 1, none⟩ (.int .i64 0)).setCell ⟨b1, 2, none⟩ (.slice none 0 0) = w5 at *
    have k0 := h8.out.cell (b := b1) (o := 0) (.here _ _) rfl
    have k1 := h8.out.cell (b := b1) (o := 1) (.here _ _) rfl
    have k2 := h8.out.cell (b := b1) (o := 2) (.here _ _) rfl
    refine bodyPost_ret (v := .tuple #[.agg #[.int .u32 0, .int .i64 0, .slice none 0 0], .bool false]) ?_ rfl ⟨rfl, ?_⟩
    · simp [results, Try.results44, go_sem, k0, k1, k2]
    · exact hback.out _ _ h8.out
  · have h1b : (y != self) = false := by simpa using h1
    have h2b : (gN == 4294967295) = true := by simpa using h2
    obtain ⟨b', o', rfl, hc⟩ := hr0.out rfl
    have hcc := hc w2 (hLt.out _ hH.out.tail.tail.tail)
    have hpp := hpos.out rfl
    clear hc hr0 way h1 h2
    go_quiet (fail)
    have H3 := hH.out.drewN nq
    generalize w2.drewN nq = w3 at *
    have z0 := H3.cell (b := b1) (o := 0) (.here _ _) rfl
    have z1 := H3.cell (b := b1) (o := 1) (.here _ _) rfl
    have z2 := H3.cell (b := b1) (o := 2) (.here _ _) rfl
    have fz := fun o => H3.free (b := b1) (.here _ _) o
    have h8 := Lib.hid (hfin.out _ H3)
    clear H3 hfin
    go_wp2_with fail
    generalize ((w3.setCell ⟨b1, 0, none⟩ (.int .u32 0)).setCell ⟨b1, 1, none⟩ (.int .i64 0)).setCell ⟨b1, 2, none⟩ (.slice none 0 0) = w5 at *
    have k0 := h8.out.cell (b := b1) (o := 0) (.here _ _) rfl
    have k1 := h8.out.cell (b := b1) (o := 1) (.here _ _) rfl
    have k2 := h8.out.cell (b := b1) (o := 2) (.here _ _) rfl
    refine bodyPost_ret (v := .tuple #[.agg #[.int .u32 0, .int .i64 0, .slice none 0 0], .bool false]) ?_ rfl ⟨rfl, ?_⟩
    · simp [results, Try.results44, go_sem, k0, k1, k2]
    · exact hback.out _ _ h8.out
  · have h1b : (y != self) = false := by simpa using h1
    have h2b : (gN == 4294967295) = false := by simpa using h2
    obtain ⟨b', o', rfl, hc⟩ := hr0.out rfl
    have hcc := hc w2 (hLt.out _ hH.out.tail.tail.tail)
    have hpp := hpos.out rfl
    clear hc hr0 way h1 h2
    go_quiet (fail)
    have H4 := hH.out.drewN nq
    have hel' := Lib.hid (hel.out _ (hLt.out _ H4.tail.tail.tail) (H4.re (.step (.there (.there (.here _ _))) (.done _))))
    clear hel hcc h1b h2b H4
    go_wp2_with fail
    refine hel'.out.mono ?_
    rintro r w' ⟨rfl, nd, rfl⟩
    have hH3 := Lib.hid ((hH.out.drewN nq).drewN nd)
    generalize (w2.drewN nq).drewN nd = w4 at *
    clear hH hel' p0 p1 p3 p4 p5 p6 p7
    have hH := hH3
    clear hH3
    have p3 := hH.out.cell (b := p) (o := 3) (by first | exact .here _ _ | exact .there (.here _ _) | exact .there (.there (.here _ _)) | exact .there (.there (.there (.here _ _))) | exact .there (.there (.there (.there (.here _ _)))) | exact .there (.there (.there (.there (.there (.here _ _))))) | exact .there (.there (.there (.there (.there (.there (.here _ _)))))) | exact .there (.there (.there (.there (.there (.there (.there (.here _ _))))))) | exact .there (.there (.there (.there (.there (.there (.there (.there (.here _ _)))))))) | exact .there (.there (.there (.there (.there (.there (.there (.there (.there (.here _ _))))))))) | exact .there (.there (.there (.there (.there (.there (.there (.there (.there (.there (.here _ _)))))))))) | exact .there (.there (.there (.there (.there (.there (.there (.there (.there (.there (.there (.here _ _))))))))))) | exact .there (.there (.there (.there (.there (.there (.there (.there (.there (.there (.there (.there (.here _ _)))))))))))) | exact .there (.there (.there (.there (.there (.there (.there (.there (.there (.there (.there (.there (.there (.here _ _)))))))))))))) rfl
    have p4 := hH.out.cell (b := p) (o := 4) (by first | exact .here _ _ | exact .there (.here _ _) | exact .there (.there (.here _ _)) | exact .there (.there (.there (.here _ _))) | exact .there (.there (.there (.there (.here _ _)))) | exact .there (.there (.there (.there (.there (.here _ _))))) | exact .there (.there (.there (.there (.there (.there (.here _ _)))))) | exact .there (.there (.there (.there (.there (.there (.there (.here _ _))))))) | exact .there (.there (.there (.there (.there (.there (.there (.there (.here _ _)))))))) | exact .there (.there (.there (.there (.there (.there (.there (.there (.there (.here _ _))))))))) | exact .there (.there (.there (.there (.there (.there (.there (.there (.there (.there (.here _ _)))))))))) | exact .there (.there (.there (.there (.there (.there (.there (.there (.there (.there (.there (.here _ _))))))))))) | exact .there (.there (.there (.there (.there (.there (.there (.there (.there (.there (.there (.there (.here _ _)))))))))))) | exact .there (.there (.there (.there (.there (.there (.there (.there (.there (.there (.there (.there (.there (.here _ _)))))))))))))) rfl
    have p6 := hH.out.cell (b := p) (o := 6) (by first | exact .here _ _ | exact .there (.here _ _) | exact .there (.there (.here _ _)) | exact .there (.there (.there (.here _ _))) | exact .there (.there (.there (.there (.here _ _)))) | exact .there (.there (.there (.there (.there (.here _ _))))) | exact .there (.there (.there (.there (.there (.there (.here _ _)))))) | exact .there (.there (.there (.there (.there (.there (.there (.here _ _))))))) | exact .there (.there (.there (.there (.there (.there (.there (.there (.here _ _)))))))) | exact .there (.there (.there (.there (.there (.there (.there (.there (.there (.here _ _))))))))) | exact .there (.there (.there (.there (.there (.there (.there (.there (.there (.there (.here _ _)))))))))) | exact .there (.there (.there (.there (.there (.there (.there (.there (.there (.there (.there (.here _ _))))))))))) | exact .there (.there (.there (.there (.there (.there (.there (.there (.there (.there (.there (.there (.here _ _)))))))))))) | exact .there (.there (.there (.there (.there (.there (.there (.there (.there (.there (.there (.there (.there (.here _ _)))))))))))))) rfl
    have p7 := hH.out.cell (b := p) (o := 7) (by first | exact .here _ _ | exact .there (.here _ _) | exact .there (.there (.here _ _)) | exact .there (.there (.there (.here _ _))) | exact .there (.there (.there (.there (.here _ _)))) | exact .there (.there (.there (.there (.there (.here _ _))))) | exact .there (.there (.there (.there (.there (.there (.here _ _)))))) | exact .there (.there (.there (.there (.there (.there (.there (.here _ _))))))) | exact .there (.there (.there (.there (.there (.there (.there (.there (.here _ _)))))))) | exact .there (.there (.there (.there (.there (.there (.there (.there (.there (.here _ _))))))))) | exact .there (.there (.there (.there (.there (.there (.there (.there (.there (.there (.here _ _)))))))))) | exact .there (.there (.there (.there (.there (.there (.there (.there (.there (.there (.there (.here _ _))))))))))) | exact .there (.there (.there (.there (.there (.there (.there (.there (.there (.there (.there (.there (.here _ _)))))))))))) | exact .there (.there (.there (.there (.there (.there (.there (.there (.there (.there (.there (.there (.there (.here _ _)))))))))))))) rfl
    go_wp2_with fail
    go_quiet (fail)
    have H3 := hH.out.drewN nq
    generalize w4.drewN nq = w3 at *
    have z0 := H3.cell (b := b1) (o := 0) (.here _ _) rfl
    have z1 := H3.cell (b := b1) (o := 1) (.here _ _) rfl
    have z2 := H3.cell (b := b1) (o := 2) (.here _ _) rfl
    have fz := fun o => H3.free (b := b1) (.here _ _) o
    have h8 := Lib.hid (hfin.out _ H3)
    clear H3 hfin
    go_wp2_with fail
    generalize ((w3.setCell ⟨b1, 0, none⟩ (.int .u32 0)).setCell ⟨b1, 1, none⟩ (.int .i64 0)).setCell ⟨b1, 2, none⟩ (.slice none 0 0) = w5 at *
    have k0 := h8.out.cell (b := b1) (o := 0) (.here _ _) rfl
    have k1 := h8.out.cell (b := b1) (o := 1) (.here _ _) rfl
    have k2 := h8.out.cell (b := b1) (o := 2) (.here _ _) rfl
    refine bodyPost_ret (v := .tuple #[.agg #[.int .u32 0, .int .i64 0, .slice none 0 0], .bool false]) ?_ rfl ⟨rfl, ?_⟩
    · simp [results, Try.results44, go_sem, k0, k1, k2]
    · exact hback.out _ _ h8.out
end Go.Proofs.Ytaibdcglhibglaa
