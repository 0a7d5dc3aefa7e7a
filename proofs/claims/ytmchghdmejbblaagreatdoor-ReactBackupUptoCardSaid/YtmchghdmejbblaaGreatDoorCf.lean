/- What taking does to reactions that are right: plain law. -/
import Derived.Test.YtmchghdmejbblaaGreatDoorCe
set_option linter.unusedSimpArgs false
set_option linter.unusedVariables false
noncomputable section
namespace Go.Proofs.YtmchghdmejbblaaGreatDoor
open Go Go.Ab Go.RowKit

theorem els_le {l : List Int} (h : els l = true) : l.length ≤ 4096 := by
  unfold els at h
  rw [Bool.and_eq_true] at h
  exact of_decide_eq_true h.2
theorem els_sub {l l' : List Int} (h : els l = true) (hs : ∀ x ∈ l', x ∈ l) (hl : l'.length ≤ l.length) : els l' = true := by
  have h1 := els_le h
  unfold els at *
  rw [Bool.and_eq_true] at *
  refine ⟨?_, decide_eq_true (by omega)⟩
  rw [List.all_eq_true] at *
  exact fun x hx => h.1 x (hs x hx)
def lens (qs : List Qu) : Nat := (qs.map (·.list.length)).sum
theorem lens_le {qs : List Qu} (h : ∀ q ∈ qs, q.list.length ≠ 0) : qs.length ≤ lens qs := by
  induction qs with
  | nil => simp
  | cons q qs ih =>
    have h1 := h q (by simp)
    have h2 := ih fun x hx => h x (List.mem_cons_of_mem _ hx)
    unfold lens at *
    simp only [List.length_cons, List.map_cons, List.sum_cons]
    omega
theorem right_size {s : Re} (h : RightP s) : s.ok := by
  have h1 := lens_le (right_ne h)
  have h2 := h.many
  have h3 := h.deep
  have h4 := els_le h.backup
  unfold lens at h1
  unfold many at h2
  exact ⟨by unfold Bd; omega, by unfold Bd; omega, by unfold Bd; omega, fun l hl => by have := els_le (h.stack l hl); unfold Bd; omega, by unfold Bd; omega⟩
theorem right_pop {s : Re} (h : RightP s) (hd : s.stack.length ≠ 0) : pop s = ({ s with stack := s.stack.dropLast }, s.stack.getLast?.getD [], 0) ∧ RightP { s with stack := s.stack.dropLast } ∧ els (s.stack.getLast?.getD []) = true := by
  refine ⟨by unfold pop; rw [if_neg (fun h' => h' h), if_neg hd], ⟨h.qs, h.apart, fun l hl => h.stack l (List.dropLast_subset _ hl), h.many, ?_, h.backup⟩, h.stack _ (List.mem_of_getElem? (drop_last_get (s := s) (by omega)))⟩
  have := h.deep
  simp only [List.length_dropLast]
  omega

structure RightQ (qs : List Qu) : Prop where
  all : ∀ q ∈ qs, okQ q
  apart : (qs.map (·.el)).Nodup
theorem waitL_nil {qs : List Qu} (h : RightQ qs) (x : Int) : waitL qs x = [] ↔ ∀ q ∈ qs, q.el ≠ x := by
  unfold waitL
  constructor
  · intro hw q hq he
    cases hf : qs.find? (fun q => decide (q.el = x)) with
    | none =>
      rw [List.find?_eq_none] at hf
      exact hf q hq (by simp [he])
    | some q' =>
      rw [hf] at hw
      exact (h.all q' (List.mem_of_find?_eq_some hf)).list (by simp only at hw; rw [hw]; rfl)
  · intro hq
    have : qs.find? (fun q => decide (q.el = x)) = none := by
      rw [List.find?_eq_none]
      intro q hq'
      simp [hq q hq']
    rw [this]
theorem waitL_len {qs : List Qu} (h : RightQ qs) (x : Int) : (waitL qs x).length ≤ lens qs := by
  unfold waitL
  cases hf : qs.find? (fun q => decide (q.el = x)) with
  | none => exact Nat.zero_le _
  | some q =>
    have hm := List.mem_of_find?_eq_some hf
    clear hf h
    simp only
    induction qs with
    | nil => cases hm
    | cons a l ih =>
      unfold lens at *
      simp only [List.map_cons, List.sum_cons]
      rcases List.mem_cons.1 hm with rfl | hm
      · omega
      · have := ih hm
        omega
theorem lens_split (qs : List Qu) (i : Nat) : lens qs = lens (qs.take i) + lens (qs.drop i) := by
  unfold lens
  rw [← List.sum_append, ← List.map_append, List.take_append_drop]
theorem lens_append (a b : List Qu) : lens (a ++ b) = lens a + lens b := by
  unfold lens
  rw [List.map_append, List.sum_append]
theorem lens_cons (q : Qu) (b : List Qu) : lens (q :: b) = q.list.length + lens b := by
  unfold lens
  simp

/-- What taking comes to. -/
structure Took1 (qs : List Qu) (l : List Int) (qs' : List Qu) (left : List Int) (r : Rx) (rest : List Rx) : Prop where
  was : waitL qs r.el = r :: rest
  now : waitL qs' r.el = rest
  right : RightQ qs'
  sum : lens qs' + 1 = lens qs
  short : left.length ≤ l.length
  sub : ∀ x ∈ left, x ∈ l
  old : ∀ h, waitL qs h = [] → waitL qs' h = []
  all : ∀ h ∈ l, h ∈ left ∨ waitL qs' h = []

theorem takeP_cases {qs : List Qu} (hr : RightQ qs) : ∀ (l : List Int), (takeP qs l = (qs, [], zRx, false) ∧ ∀ h ∈ l, waitL qs h = []) ∨ ∃ qs' left r rest, takeP qs l = (qs', left, r, true) ∧ Took1 qs l qs' left r rest
  | [] => .inl ⟨rfl, fun h hh => by cases hh⟩
  | h :: t => by
    cases hf : qs.findIdx? (fun q => decide (q.el = h)) with
    | none =>
      have heq : takeP qs (h :: t) = takeP qs t := by simp only [takeP, hf]
      have hn : waitL qs h = [] := by
        rw [waitL_nil hr]
        rw [List.findIdx?_eq_none_iff] at hf
        intro q hq
        simpa using hf q hq
      rcases takeP_cases hr t with ⟨h1, h2⟩ | ⟨qs', left, r, rest, h1, h2⟩
      · refine .inl ⟨by rw [heq, h1], fun x hx => ?_⟩
        rcases List.mem_cons.1 hx with rfl | hx
        · exact hn
        · exact h2 x hx
      · refine .inr ⟨qs', left, r, rest, by rw [heq, h1], h2.was, h2.now, h2.right, h2.sum, by have := h2.short; simp only [List.length_cons]; omega, fun x hx => List.mem_cons_of_mem _ (h2.sub x hx), h2.old, fun x hx => ?_⟩
        rcases List.mem_cons.1 hx with rfl | hx
        · exact .inr (h2.old _ hn)
        · exact h2.all x hx
    | some i =>
      have hf' := hf
      rw [List.findIdx?_eq_some_iff_getElem] at hf'
      obtain ⟨hi, he, hpre⟩ := hf'
      have he : qs[i].el = h := by simpa using he
      have hq : qs[i]? = some qs[i] := by simp
      have hmem := List.getElem_mem hi
      obtain ⟨q, hqq⟩ : ∃ q, qs[i] = q := ⟨_, rfl⟩
      rw [hqq] at he hq hmem
      have hok := hr.all q hmem
      obtain ⟨e, ql⟩ := q
      simp only at he
      subst he
      cases ql with
      | nil => exact absurd rfl hok.list
      | cons r rest =>
      have hre : r.el = e := (hok.rs r (by simp)).1
      have htake : ∀ x ∈ qs.take i, (decide (x.el = e)) = false := fun x hx => by
        rw [List.mem_take_iff_getElem] at hx
        obtain ⟨j, hj, rfl⟩ := hx
        have := hpre j (by omega)
        simpa using this
      have hwas : waitL qs r.el = r :: rest := by rw [hre]; exact waitL_at hq rfl htake
      have hdrop : qs.drop i = ⟨e, r :: rest⟩ :: qs.drop (i + 1) := by rw [List.drop_eq_getElem_cons hi, hqq]
      have hsplit : qs = qs.take i ++ ⟨e, r :: rest⟩ :: qs.drop (i + 1) := by rw [← hdrop, List.take_append_drop]
      have hlen : lens qs = lens (qs.take i) + (rest.length + 1 + lens (qs.drop (i + 1))) := by rw [lens_split qs i, hdrop, lens_cons]; rfl
      have hnd := hr.apart
      rw [hsplit, List.map_append, List.map_cons, List.nodup_append] at hnd
      obtain ⟨n1, n2, n3⟩ := hnd
      rw [List.nodup_cons] at n2
      have hin1 : ∀ x ∈ qs.take i, x ∈ qs := fun x hx => List.mem_of_mem_take hx
      have hin2 : ∀ x ∈ qs.drop (i + 1), x ∈ qs := fun x hx => List.mem_of_mem_drop hx
      have hne1 : ∀ x ∈ qs.take i, x.el ≠ e := fun x hx => by simpa using htake x hx
      have hne2 : ∀ x ∈ qs.drop (i + 1), x.el ≠ e := fun x hx he => n2.1 (List.mem_map.2 ⟨x, hx, he⟩)
      by_cases hrest : rest.length = 0
      · obtain rfl : rest = [] := List.eq_nil_of_length_eq_zero hrest
        have hq' : qs.eraseIdx i = qs.take i ++ qs.drop (i + 1) := List.eraseIdx_eq_take_drop_succ _ _
        have hR : RightQ (qs.eraseIdx i) := by
          rw [hq']
          refine ⟨fun q hq => ?_, ?_⟩
          · rcases List.mem_append.1 hq with h | h
            · exact hr.all q (hin1 q h)
            · exact hr.all q (hin2 q h)
          · rw [List.map_append, List.nodup_append]
            exact ⟨n1, n2.2, fun a ha b hb => n3 a ha b (List.mem_cons_of_mem _ hb)⟩
        have hnow : waitL (qs.eraseIdx i) e = [] := by
          rw [waitL_nil hR, hq']
          intro q hq
          rcases List.mem_append.1 hq with h | h
          · exact hne1 q h
          · exact hne2 q h
        have hold : ∀ h, waitL qs h = [] → waitL (qs.eraseIdx i) h = [] := fun h hw => by
          rw [waitL_nil hr] at hw
          rw [waitL_nil hR, hq']
          intro q hq
          rcases List.mem_append.1 hq with h' | h'
          · exact hw q (hin1 q h')
          · exact hw q (hin2 q h')
        refine .inr ⟨qs.eraseIdx i, t, r, [], ?_, hwas, by rw [hre]; exact hnow, hR, ?_, by simp, fun x hx => List.mem_cons_of_mem _ hx, hold, fun x hx => ?_⟩
        · simp only [takeP, hf, hq]
          rfl
        · rw [hlen, hq', lens_append]
          simp only [List.length_nil]
          omega
        · rcases List.mem_cons.1 hx with rfl | hx
          · exact .inr hnow
          · exact .inl hx
      · have hq' : qs.set i ⟨e, rest⟩ = qs.take i ++ ⟨e, rest⟩ :: qs.drop (i + 1) := by rw [List.set_eq_take_append_cons_drop, if_pos hi]
        have hR : RightQ (qs.set i ⟨e, rest⟩) := by
          rw [hq']
          refine ⟨fun q hq => ?_, ?_⟩
          · rcases List.mem_append.1 hq with h | h
            · exact hr.all q (hin1 q h)
            · rcases List.mem_cons.1 h with rfl | h
              · exact ⟨hok.el, hrest, fun r' hr' => hok.rs r' (List.mem_cons_of_mem _ hr')⟩
              · exact hr.all q (hin2 q h)
          · rw [List.map_append, List.map_cons, List.nodup_append, List.nodup_cons]
            exact ⟨n1, n2, n3⟩
        have hnow : waitL (qs.set i ⟨e, rest⟩) e = rest := by
          refine waitL_at (i := i) (q := ⟨e, rest⟩) (by rw [List.getElem?_set_self hi]) rfl fun x hx => ?_
          have : (qs.set i ⟨e, rest⟩).take i = qs.take i := by rw [hq', List.take_left' (by rw [List.length_take]; omega)]
          rw [this] at hx
          exact htake x hx
        have hold : ∀ h, waitL qs h = [] → waitL (qs.set i ⟨e, rest⟩) h = [] := fun h hw => by
          rw [waitL_nil hr] at hw
          rw [waitL_nil hR, hq']
          intro q hq
          rcases List.mem_append.1 hq with h' | h'
          · exact hw q (hin1 q h')
          · rcases List.mem_cons.1 h' with rfl | h'
            · exact hw ⟨e, r :: rest⟩ hmem
            · exact hw q (hin2 q h')
        refine .inr ⟨qs.set i ⟨e, rest⟩, e :: t, r, rest, ?_, hwas, by rw [hre]; exact hnow, hR, ?_, Nat.le_refl _, fun x hx => hx, hold, fun x hx => .inl hx⟩
        · simp only [takeP, hf, hq]
          rw [if_neg hrest]
        · rw [hlen, hq', lens_append, lens_cons]
          simp only
          omega
theorem right_q {s : Re} (h : RightP s) : RightQ s.qs := ⟨h.qs, h.apart⟩
theorem right_took {s : Re} (h : RightP s) {qs' : List Qu} (hq : RightQ qs') (hs : lens qs' ≤ lens s.qs) {bk : List Int} (hb : els bk = true) (busy : Bool) : RightP { qs := qs', stack := s.stack, backup := bk, busy := busy } := by
  have := h.many
  unfold many at this
  unfold lens at hs
  exact ⟨hq.all, hq.apart, h.stack, by unfold many; simp only; omega, h.deep, hb⟩
end Go.Proofs.YtmchghdmejbblaaGreatDoor
