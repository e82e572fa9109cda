/- A map from pairs of int to pointers: what it holds, looking up, a new entry. Nothing here names the program. -/
import Derived.Test.YtnkahibddhchlaaSL
import Derived.WideKeyPair
namespace Go.Proofs.Ytnkahibddhchlaa
open Go.RowKit Go.WideMaps
set_option linter.unusedVariables false

abbrev Ky := Int × Int
def kyV (k : Ky) : Value := .agg #[.int .i64 k.1, .int .i64 k.2]
def okI (a : Int) : Prop := (Lit.int .i64 a).wf = true
def okK (k : Ky) : Prop := okI k.1 ∧ okI k.2
theorem kyV_inj {a b : Ky} (h : kyV a = kyV b) : a = b := by
  obtain ⟨a1, a2⟩ := a
  obtain ⟨b1, b2⟩ := b
  simp only [kyV, Value.agg.injEq, Array.mk.injEq, List.cons.injEq, Value.int.injEq, true_and, and_true] at h
  rw [h.1, h.2]

abbrev Kl := List (Ky × Nat)
def ptrV (q : Nat) : Value := .pointer (some ⟨q, 0, none⟩)
def klV (l : Kl) : List (Value × Value) := l.map fun x => (kyV x.1, ptrV x.2)
def KmapAt (w : World) (b : Nat) (l : Kl) : Prop :=
  ∃ es clock, w.heap[b]? = some (.map es clock) ∧ es.toList.map (fun e => (e.key, e.val)) = klV l

def kmap (b : Nat) (l : Kl) : Pc := .gen {
  foot := fun x => x = b
  says := fun w => KmapAt w b l
  stays := fun w w' h _ _ _ _ hb => by
    obtain ⟨es, c, h1, h2⟩ := h
    exact ⟨es, c, (hb b rfl).trans h1, h2⟩
  inn := fun w h x hx => by
    obtain ⟨es, c, h1, _⟩ := h
    obtain rfl : x = b := hx
    exact blk_lt h1 }

theorem SL.kmap {w : World} {L L' : List Pc} {b : Nat} {l : Kl} (H : SL w L) (hp : Pull L (kmap b l) L') : KmapAt w b l := H.all _ hp.mem

/-- The pointer that stands at a key; nil: none does. -/
def kat (l : Kl) (k : Ky) : Value := match l.find? (fun x => x.1 == k) with | some x => ptrV x.2 | none => .pointer none

theorem kat_none {l : Kl} {k : Ky} (h : ∀ x ∈ l, x.1 ≠ k) : kat l k = .pointer none := by
  unfold kat
  rw [List.find?_eq_none.2 fun x hx => by simpa using h x hx]

theorem kat_at {l : Kl} {k : Ky} {i : Nat} (hi : i < l.length) (hd : (l.map (·.1)).Nodup) (h : (l[i]'hi).1 = k) : kat l k = ptrV (l[i]'hi).2 := by
  unfold kat
  cases hf : l.find? (fun x => x.1 == k) with
  | none =>
    have := List.find?_eq_none.1 hf _ (List.getElem_mem hi)
    simp [h] at this
  | some x =>
    have hx := List.mem_of_find?_eq_some hf
    have hk := List.find?_some hf
    obtain ⟨j, hj, rfl⟩ := List.mem_iff_getElem.1 hx
    have e : j = i := by
      have h1 : (l.map (·.1))[j]'(by simpa using hj) = (l.map (·.1))[i]'(by simpa using hi) := by
        simp only [List.getElem_map]
        rw [h]; simpa using hk
      exact (List.getElem_inj hd).1 h1
    subst e
    rfl

theorem run_zero_ptr {P : Program} {E e : TypeId} (h : P.underlying E = some (.pointer e)) (w : World) (hz : (zeroValue E).run P w = .ok (.pointer none) w) : (zeroValue E).run P w = .ok (.pointer none) w := hz

section
variable {P : Program} {t K E I : TypeId} (A : ArrKey P K I 2) (hI : P.underlying I = some (.int .i64)) (hs : ∃ m, P.types.size = m + 1)
include A hI hs

theorem key_of {k : Ky} (hk : okK k) : ∃ l, keyOf P K (kyV k) = some l := ⟨_, keyOf_pair A hI hs hk.1 hk.2⟩

theorem kfind {w : World} {b : Nat} {l : Kl} {es : Array MapEntry} (he : es.toList.map (fun e => (e.key, e.val)) = klV l) (hok : ∀ x ∈ l, okK x.1) (hd : (l.map (·.1)).Nodup) {k : Ky} (hk : okK k) :
    ((Instr.findKey K (kyV k) es.toList).run P w = .ok none w ∧ kat l k = .pointer none) ∨ ∃ j, (Instr.findKey K (kyV k) es.toList).run P w = .ok (some (j, kat l k)) w := by
  obtain ⟨lx, hx⟩ := key_of A hI hs hk
  have hin : ∀ e ∈ es.toList, ∃ x ∈ l, e.key = kyV x.1 := by
    intro e hm
    have : (e.key, e.val) ∈ klV l := he ▸ List.mem_map.2 ⟨e, hm, rfl⟩
    obtain ⟨x, hx, h⟩ := List.mem_map.1 this
    exact ⟨x, hx, by simpa using (congrArg Prod.fst h).symm⟩
  have hlen : es.toList.length = l.length := by simpa [klV] using congrArg List.length he
  rcases A.law.find w hx es.toList (fun e hm => by
    obtain ⟨x, hxl, e1⟩ := hin e hm
    rw [e1]
    exact key_of A hI hs (hok x hxl)) with ⟨h1, h2⟩ | ⟨j, e, h1, h2, h3⟩
  · refine .inl ⟨h1, kat_none fun x hxl hxk => ?_⟩
    have hm : (kyV x.1, ptrV x.2) ∈ es.toList.map (fun e => (e.key, e.val)) := by rw [he]; exact List.mem_map.2 ⟨x, hxl, rfl⟩
    obtain ⟨e, hem, hee⟩ := List.mem_map.1 hm
    exact h2 e hem (by rw [← hxk]; simpa using congrArg Prod.fst hee)
  · refine .inr ⟨j, ?_⟩
    obtain ⟨hj, hje⟩ := List.getElem?_eq_some_iff.1 h2
    have hjl : j < l.length := by omega
    have hpair : (e.key, e.val) = (kyV (l[j]'hjl).1, ptrV (l[j]'hjl).2) := by
      have e1 : (es.toList.map (fun e => (e.key, e.val)))[j]'(by simpa using hj) = (klV l)[j]'(by simpa [klV] using hjl) := List.getElem_of_eq he _
      simp only [List.getElem_map, hje, klV] at e1
      exact e1
    have hkey : (l[j]'hjl).1 = k := kyV_inj (by rw [← h3]; exact (congrArg Prod.fst hpair).symm)
    rw [h1, kat_at hjl hd hkey, show e.val = ptrV (l[j]'hjl).2 from congrArg Prod.snd hpair]

theorem kmap_lookup {w : World} {b : Nat} {l : Kl} (h : KmapAt w b l) (ht : P.underlying t = some (.map K E)) (hz : (zeroValue E).run P w = .ok (.pointer none) w)
    (hok : ∀ x ∈ l, okK x.1) (hd : (l.map (·.1)).Nodup) {k : Ky} (hk : okK k) :
    (Instr.lookup t (.map (some b)) (kyV k) false).run P w = .ok (kat l k) w := by
  obtain ⟨es, c, hb, he⟩ := h
  obtain ⟨lx, hx⟩ := key_of A hI hs hk
  have hg : (getObj b).run P w = .ok (.map es c) w := by simp [getObj, Sem.run, hb]
  have hc := fun em => A.law.check w em hx
  rcases kfind A hI hs (w := w) (b := b) he hok hd hk with ⟨h1, h2⟩ | ⟨j, h1⟩
  · simp [Instr.lookup, run_underlying ht, hg, hc, h1, hz, h2]
  · simp [Instr.lookup, run_underlying ht, hg, hc, h1]

/-- A key that is not there gets a pointer. -/
theorem kmap_add {w : World} {b : Nat} {l : Kl} {L : List Pc} (H : SL w (kmap b l :: L)) (ht : P.underlying t = some (.map K E))
    (hok : ∀ x ∈ l, okK x.1) (hd : (l.map (·.1)).Nodup) {k : Ky} (hk : okK k) (hn : ∀ x ∈ l, x.1 ≠ k) (q : Nat) :
    ∃ w', (Instr.mapUpdate t (.map (some b)) (kyV k) (ptrV q)).run P w = .ok () w' ∧ SL w' (kmap b (l ++ [(k, q)]) :: L) := by
  obtain ⟨es, c, hb, he⟩ : KmapAt w b l := H.head
  obtain ⟨lx, hx⟩ := key_of A hI hs hk
  have hg : (getObj b).run P w = .ok (.map es c) w := by simp [getObj, Sem.run, hb]
  have hc := fun em => A.law.check w em hx
  have hset : ∀ o : Obj, (setObj b o).run P w = .ok () (w.putObj b o) := fun o => by simp [setObj, Sem.run, World.putObj, hb]
  rcases A.law.find w hx es.toList (fun e hm => by
    have : (e.key, e.val) ∈ klV l := he ▸ List.mem_map.2 ⟨e, hm, rfl⟩
    obtain ⟨x, hxl, h⟩ := List.mem_map.1 this
    rw [show e.key = kyV x.1 from (congrArg Prod.fst h).symm]
    exact key_of A hI hs (hok x hxl)) with ⟨h1, h2⟩ | ⟨j, e, h1, h2, h3⟩
  · refine ⟨w.putObj b (.map (es.push { key := kyV k, val := ptrV q, born := c }) (c + 1)), ?_, ?_⟩
    · simp [Instr.mapUpdate, run_underlying ht, hg, hc, h1, hset]
    · refine H.upd (Kp.putObj (S := (kmap b l).foot) (Kp.refl _ w) (.inl (show b = b from rfl)) _) ⟨_, _, World.putObj_heap_same (blk_lt hb), ?_⟩ fun x hx => .inl hx
      rw [Array.toList_push, List.map_append, he]
      simp [klV]
  · exfalso
    have hem : e ∈ es.toList := List.mem_of_getElem? h2
    have : (e.key, e.val) ∈ klV l := he ▸ List.mem_map.2 ⟨e, hem, rfl⟩
    obtain ⟨x, hxl, h⟩ := List.mem_map.1 this
    exact hn x hxl (kyV_inj (by rw [← h3]; exact (congrArg Prod.fst h)))
end
end Go.Proofs.Ytnkahibddhchlaa
