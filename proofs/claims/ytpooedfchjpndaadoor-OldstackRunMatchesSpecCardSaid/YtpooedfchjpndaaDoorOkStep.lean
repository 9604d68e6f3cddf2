import Derived.Test.YtpooedfchjpndaaDoorStepL
namespace Go.Proofs.YtpooedfchjpndaaDoor
open Go Go.RowKit
/-- What holds of a state apart from its data stack. -/
structure OkR (s : St) : Prop where
  image : Byt s.image
  mem : Half s.mem
  memlen : s.mem.length = 32
  input : Byt s.input
  output : Byt s.output
  il : s.image.length ≤ 256
  inl : s.input.length ≤ 1000
  ol : s.output.length ≤ 1000
  rl : s.ret.length ≤ 8
  at0 : 0 ≤ s.at_
  at1 : s.at_ ≤ 256
  st0 : 0 ≤ s.stop
  st1 : s.stop ≤ 7
  ret : ∀ x ∈ s.ret, 0 ≤ x ∧ x ≤ 256
theorem OkSt.r {s : St} (h : OkSt s) : OkR s := ⟨h.wf.image, h.wf.mem, h.wf.memlen, h.wf.input, h.wf.output, h.il, h.inl, h.ol, h.rl, h.at0, h.at1, h.st0, h.st1, h.ret⟩
theorem OkR.ok {s : St} (h : OkR s) (hd : Half s.data) (hl : s.data.length ≤ 16) : OkSt s :=
  ⟨⟨h.image, ⟨by have := h.at0; omega, by have := h.at1; omega⟩, hd, fun x hx => ⟨by have := h.ret x hx; omega, by have := h.ret x hx; omega⟩, h.mem, h.memlen, h.input, h.output, ⟨by have := h.st0; omega, by have := h.st1; omega⟩⟩, h.il, h.inl, h.ol, hl, h.rl, h.at0, h.at1, h.st0, h.st1, h.ret⟩
theorem half_nil : Half [] := fun x hx => by simp at hx
theorem half_cons {x : Int} {l : List Int} (h : 0 ≤ x ∧ x < 65536) (hl : Half l) : Half (x :: l) := fun y hy => by
  rcases List.mem_cons.1 hy with rfl | hy
  · exact h
  · exact hl y hy
theorem half_append {l m : List Int} (hl : Half l) (hm : Half m) : Half (l ++ m) := fun y hy => by
  rcases List.mem_append.1 hy with hy | hy
  · exact hl y hy
  · exact hm y hy
theorem compF_range {op a b : Int} (ha : 0 ≤ a ∧ a < 65536) (hb : 0 ≤ b ∧ b < 65536) (_ho : 6 ≤ op ∧ op ≤ 15) (hz : op = 9 ∨ op = 10 → b ≠ 0) : 0 ≤ compF op a b ∧ compF op a b < 65536 := by
  obtain ⟨a0, a1⟩ := ha
  obtain ⟨b0, b1⟩ := hb
  unfold compF
  by_cases h6 : op = 6
  · rw [if_pos h6]; omega
  rw [if_neg h6]
  by_cases h7 : op = 7
  · rw [if_pos h7]; omega
  rw [if_neg h7]
  by_cases h8 : op = 8
  · rw [if_pos h8]; exact ⟨Int.emod_nonneg _ (by decide), Int.emod_lt_of_pos _ (by decide)⟩
  rw [if_neg h8]
  by_cases h9 : op = 9
  · rw [if_pos h9]
    have h1 : 0 ≤ a / b := Int.ediv_nonneg a0 b0
    have h2 : a / b ≤ a := Int.ediv_le_self b a0
    omega
  rw [if_neg h9]
  by_cases h10 : op = 10
  · rw [if_pos h10]
    have hb' : 0 < b := by have := hz (.inr h10); omega
    have h1 := Int.emod_nonneg a (show b ≠ 0 by omega)
    have h2 := Int.emod_lt_of_pos a hb'
    omega
  rw [if_neg h10]
  have na : a.toNat < 2 ^ 16 := by omega
  have nb : b.toNat < 2 ^ 16 := by omega
  by_cases h11 : op = 11
  · rw [if_pos h11]
    have := Nat.and_lt_two_pow a.toNat nb
    omega
  rw [if_neg h11]
  by_cases h12 : op = 12
  · rw [if_pos h12]
    have := Nat.or_lt_two_pow na nb
    omega
  rw [if_neg h12]
  by_cases h13 : op = 13
  · rw [if_pos h13]
    have := Nat.xor_lt_two_pow na nb
    omega
  rw [if_neg h13]
  by_cases h14 : op = 14
  · rw [if_pos h14]; split <;> omega
  rw [if_neg h14]
  split <;> omega
theorem eff_okR {s : St} (h : OkR s) {op n a b : Int} (h0 : 0 ≤ op) (h1 : op < 24) (hn : 0 ≤ n ∧ n < 65536) (hj : op = 16 ∨ op = 17 ∨ op = 18 → n ≤ 256) (ha : 0 ≤ a ∧ a < 65536) (hb : 0 ≤ b ∧ b < 65536) (hz : op = 9 ∨ op = 10 → b ≠ 0) (hm : op = 20 ∨ op = 21 → b < 32)
    (hr : op = 19 → 1 ≤ s.ret.length) (hr8 : op = 18 → s.ret.length < 8) (ho : op = 23 → s.output.length < 1000) :
    OkR (effF s op n a b).2 ∧ Half (effF s op n a b).1 ∧ ((effF s op n a b).1.length : Int) = leavesOf op := by
  by_cases hc : 6 ≤ op ∧ op ≤ 15
  · have he : effF s op n a b = ([compF op a b], s) := by
      unfold effF
      rw [if_neg (by omega), if_neg (by omega), if_neg (by omega), if_neg (by omega), if_neg (by omega), if_neg (by omega), if_neg (by omega), if_neg (by omega), if_neg (by omega), if_neg (by omega), if_neg (by omega), if_neg (by omega), if_neg (by omega), if_neg (by omega)]
    rw [he]
    refine ⟨h, half_cons (compF_range ha hb hc hz) half_nil, ?_⟩
    obtain rfl | rfl | rfl | rfl | rfl | rfl | rfl | rfl | rfl | rfl : op = 6 ∨ op = 7 ∨ op = 8 ∨ op = 9 ∨ op = 10 ∨ op = 11 ∨ op = 12 ∨ op = 13 ∨ op = 14 ∨ op = 15 := by omega
    all_goals rfl
  obtain rfl | rfl | rfl | rfl | rfl | rfl | rfl | rfl | rfl | rfl | rfl | rfl | rfl | rfl : op = 0 ∨ op = 1 ∨ op = 2 ∨ op = 3 ∨ op = 4 ∨ op = 5 ∨ op = 16 ∨ op = 17 ∨ op = 18 ∨ op = 19 ∨ op = 20 ∨ op = 21 ∨ op = 22 ∨ op = 23 := by omega
  · exact ⟨⟨h.image, h.mem, h.memlen, h.input, h.output, h.il, h.inl, h.ol, h.rl, h.at0, h.at1, (by show (0 : Int) ≤ 1; decide), (by show (1 : Int) ≤ 7; decide), h.ret⟩, half_nil, rfl⟩
  · exact ⟨h, half_cons hn half_nil, rfl⟩
  · exact ⟨h, half_cons hb (half_cons hb half_nil), rfl⟩
  · exact ⟨h, half_nil, rfl⟩
  · exact ⟨h, half_cons hb (half_cons ha half_nil), rfl⟩
  · exact ⟨h, half_cons ha (half_cons hb (half_cons ha half_nil)), rfl⟩
  · exact ⟨⟨h.image, h.mem, h.memlen, h.input, h.output, h.il, h.inl, h.ol, h.rl, hn.1, hj (.inl rfl), h.st0, h.st1, h.ret⟩, half_nil, rfl⟩
  · by_cases hb0 : b = 0
    · have he : effF s 17 n a b = ([], { s with at_ := n }) := by simp [effF, hb0]
      rw [he]
      exact ⟨⟨h.image, h.mem, h.memlen, h.input, h.output, h.il, h.inl, h.ol, h.rl, hn.1, hj (.inr (.inl rfl)), h.st0, h.st1, h.ret⟩, half_nil, rfl⟩
    · have he : effF s 17 n a b = ([], s) := by simp [effF, hb0]
      rw [he]
      exact ⟨h, half_nil, rfl⟩
  · refine ⟨⟨h.image, h.mem, h.memlen, h.input, h.output, h.il, h.inl, h.ol, ?_, hn.1, hj (.inr (.inr rfl)), h.st0, h.st1, ?_⟩, half_nil, rfl⟩
    · show (s.ret ++ [s.at_]).length ≤ 8
      have := hr8 rfl
      simp; omega
    · intro x hx
      rcases List.mem_append.1 hx with hx | hx
      · exact h.ret x hx
      · rw [List.mem_singleton.1 hx]; exact ⟨h.at0, h.at1⟩
  · have ht : 0 ≤ topF s.ret 0 ∧ topF s.ret 0 ≤ 256 := by
      have hl := hr rfl
      unfold topF
      rw [if_pos (by omega), List.getElem?_eq_getElem (by omega)]
      exact h.ret _ (List.getElem_mem _)
    refine ⟨⟨h.image, h.mem, h.memlen, h.input, h.output, h.il, h.inl, h.ol, ?_, ht.1, ht.2, h.st0, h.st1, ?_⟩, half_nil, rfl⟩
    · show (s.ret.take (s.ret.length - 1)).length ≤ 8
      have := h.rl
      simp; omega
    · intro x hx
      exact h.ret x (List.mem_of_mem_take hx)
  · refine ⟨h, half_cons ?_ half_nil, rfl⟩
    have hl := h.memlen
    have := hm (.inl rfl)
    rw [List.getElem?_eq_getElem (by omega)]
    exact h.mem _ (List.getElem_mem _)
  · refine ⟨⟨h.image, ?_, ?_, h.input, h.output, h.il, h.inl, h.ol, h.rl, h.at0, h.at1, h.st0, h.st1, h.ret⟩, half_nil, rfl⟩
    · intro x hx
      rcases List.mem_or_eq_of_mem_set hx with hx | hx
      · exact h.mem x hx
      · rw [hx]; exact ha
    · show (s.mem.set b.toNat a).length = 32
      simpa using h.memlen
  · cases hin : s.input with
    | nil =>
      have he : effF s 22 n a b = ([65535], s) := by simp [effF, hin]
      rw [he]
      exact ⟨h, half_cons (by decide) half_nil, rfl⟩
    | cons x r =>
      have he : effF s 22 n a b = ([x], { s with input := r }) := by simp [effF, hin]
      rw [he]
      have hx := h.input x (by rw [hin]; simp)
      have hl := h.inl
      rw [hin] at hl
      refine ⟨⟨h.image, h.mem, h.memlen, fun y hy => h.input y (by rw [hin]; exact List.mem_cons_of_mem _ hy), h.output, h.il, ?_, h.ol, h.rl, h.at0, h.at1, h.st0, h.st1, h.ret⟩, half_cons ⟨hx.1, by omega⟩ half_nil, rfl⟩
      show r.length ≤ 1000
      simp at hl
      omega
  · refine ⟨⟨h.image, h.mem, h.memlen, h.input, ?_, h.il, h.inl, ?_, h.rl, h.at0, h.at1, h.st0, h.st1, h.ret⟩, half_nil, rfl⟩
    · intro x hx
      rcases List.mem_append.1 hx with hx | hx
      · exact h.output x hx
      · rw [List.mem_singleton.1 hx]; omega
    · show (s.output ++ [b % 256]).length ≤ 1000
      have := ho rfl
      simp; omega
theorem ok_step {s : St} (h : OkSt s) : OkSt (stepF s) := by
  unfold stepF
  by_cases hz : stopOf s = 0
  · rw [if_pos hz]
    have h1 : ¬ (s.image.length : Int) ≤ s.at_ := by
      intro hc; unfold stopOf at hz; rw [if_pos hc] at hz; omega
    have h2 : ¬ 24 ≤ opOf s := by
      intro hc; unfold stopOf at hz; rw [if_neg h1, if_pos hc] at hz; omega
    have hso := stop_obst h1 h2
    rw [hz] at hso
    have hx0 := byte_range h s.at_.toNat
    have hx : 0 ≤ opOf s ∧ opOf s < 256 := hx0
    obtain ⟨x, hxe⟩ : ∃ x, opOf s = x := ⟨_, rfl⟩
    rw [hxe] at hso hx h2 ⊢
    have tr := tabs_range (op := x) hx.1 (by omega)
    have sr := sizeOp_range x
    have hall : ¬ (s.image.length : Int) < s.at_ + 1 + sizeOp x ∧ ¬ (s.data.length : Int) < takesOf x ∧ ¬ (x = 19 ∧ s.ret.length = 0) ∧ ¬ 16 < (s.data.length : Int) - takesOf x + leavesOf x ∧ ¬ (x = 18 ∧ 8 ≤ s.ret.length) ∧ ¬ ((x = 20 ∨ x = 21) ∧ 32 ≤ topF s.data 0) ∧ ¬ ((x = 9 ∨ x = 10) ∧ topF s.data 0 = 0) ∧ ¬ (x = 23 ∧ 1000 ≤ s.output.length) := by
      unfold obstF at hso
      repeat' split at hso
      all_goals first | (exfalso; omega) | (refine ⟨?_, ?_, ?_, ?_, ?_, ?_, ?_, ?_⟩ <;> omega)
    obtain ⟨k1, k2, k3, k4, k5, k6, k7, k8⟩ := hall
    have r0 := topF_range h.wf.data 0
    have r1 := topF_range h.wf.data 1
    have hr := h.r
    have hat0 := h.at0
    have hil := h.il
    have hon := operandF_range h
    have hjn : x = 16 ∨ x = 17 ∨ x = 18 → operandF s ≤ 256 := by
      intro hj
      have := byte_range h (s.at_.toNat + 1)
      unfold operandF
      rw [hxe, if_neg (by omega), if_pos hj]
      omega
    have hs1 : OkR { s with at_ := s.at_ + 1 + sizeOp x, data := s.data.take (s.data.length - (takesOf x).toNat) } :=
      ⟨hr.image, hr.mem, hr.memlen, hr.input, hr.output, hr.il, hr.inl, hr.ol, hr.rl, (by show 0 ≤ s.at_ + 1 + sizeOp x; omega), (by show s.at_ + 1 + sizeOp x ≤ 256; omega), hr.st0, hr.st1, hr.ret⟩
    obtain ⟨q1, q2, q3⟩ := eff_okR hs1 (op := x) (n := operandF s) (a := topF s.data 1) (b := topF s.data 0) hx.1 (by omega) hon hjn r1 r0 (by omega) (by omega) (by show x = 19 → 1 ≤ s.ret.length; omega) (by show x = 18 → s.ret.length < 8; omega) (by show x = 23 → s.output.length < 1000; omega)
    have qd := eff_data { s with at_ := s.at_ + 1 + sizeOp x, data := s.data.take (s.data.length - (takesOf x).toNat) } x (operandF s) (topF s.data 1) (topF s.data 0)
    obtain ⟨r, hre⟩ : ∃ r, effF { s with at_ := s.at_ + 1 + sizeOp x, data := s.data.take (s.data.length - (takesOf x).toNat) } x (operandF s) (topF s.data 1) (topF s.data 0) = r := ⟨_, rfl⟩
    rw [hre] at q1 q2 q3 qd ⊢
    have hfin : OkR { r.2 with data := r.2.data ++ r.1 } := ⟨q1.image, q1.mem, q1.memlen, q1.input, q1.output, q1.il, q1.inl, q1.ol, q1.rl, q1.at0, q1.at1, q1.st0, q1.st1, q1.ret⟩
    refine hfin.ok ?_ ?_
    · show Half (r.2.data ++ r.1)
      rw [qd]
      exact half_append (fun y hy => h.wf.data y (List.mem_of_mem_take hy)) q2
    · show (r.2.data ++ r.1).length ≤ 16
      rw [qd, List.length_append, List.length_take]
      omega
  · rw [if_neg hz]
    have hr := h.r
    have hst : 0 ≤ stopOf s ∧ stopOf s ≤ 7 := by
      unfold stopOf
      repeat' split
      all_goals omega
    have : OkR { s with stop := stopOf s } := ⟨hr.image, hr.mem, hr.memlen, hr.input, hr.output, hr.il, hr.inl, hr.ol, hr.rl, hr.at0, hr.at1, hst.1, hst.2, hr.ret⟩
    exact this.ok h.wf.data h.dl
end Go.Proofs.YtpooedfchjpndaaDoor
