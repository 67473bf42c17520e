/- This text proves what the reference's ParseInt hands back for every string. -/
import Derived.Test.YtodblnccgpiigaaDoorNum2
import Derived.Lib.Strings
namespace Go.Proofs.YtodblnccgpiigaaDoor
open Go.RowKit

/-- what stands behind the sign -/
def body (neg : Bool) (s : ByteArray) : List UInt8 := if neg then s.data.toList.drop 1 else s.data.toList
def sgn (neg : Bool) : Nat := if neg then 1 else 0
def negB (s : ByteArray) : Bool := s.data.toList.head? == some 45
/-- every numeral's digits behind its sign -/
theorem parseO_body {s : ByteArray} {n : Int} (h : parseO s = some n) : ∃ m : Nat, Lib.decFrom 0 (body (negB s) s) = some m ∧ n = if negB s then -(m : Int) else m := by
  obtain ⟨_, e⟩ := fmtT_inv (parseO_iff.1 h).1 (parseO_iff.1 h).2
  have e2 : s.data.toList = Lib.itoa n := by rw [← e, fmtB_data]
  unfold negB body
  rw [e2]
  unfold Lib.itoa
  split
  · refine ⟨n.natAbs, ?_, ?_⟩
    · simp [decFrom_digits]
    · simp; omega
  · obtain ⟨b, r, hd, h1, h2⟩ := digits_cons n.toNat
    have hb : (b == 45) = false := by rw [beq_eq_false_iff_ne]; intro e; subst e; simp at h1
    refine ⟨n.toNat, ?_, ?_⟩
    · rw [← decFrom_digits n.toNat, hd]; simp [hb]
    · rw [hd]; simp [hb]; omega
theorem digitVal_at {c : UInt8} (h0 : 0 ≤ (c.toNat : Int) - 48) (h1 : (c.toNat : Int) - 48 ≤ 9) : Lib.digitVal c = some (c.toNat - 48) := by
  unfold Lib.digitVal
  rw [if_pos (by omega)]
theorem body_at {s : ByteArray} {neg : Bool} {k : Nat} (h : sgn neg ≤ k) : (body neg s)[k - sgn neg]? = s.data.toList[k]? := by
  unfold body sgn at *
  cases neg
  · simp
  · simp only [if_true] at *
    rw [List.getElem?_drop, show 1 + (k - 1) = k by omega]
/-- a byte that is no digit spoils the numeral -/
theorem parseO_spoilt {s : ByteArray} {k : Nat} {c : UInt8} (hk : sgn (negB s) ≤ k) (hc : s.data.toList[k]? = some c) (hd : Lib.digitVal c = none) : parseO s = none := by
  cases hp : parseO s with
  | none => rfl
  | some n =>
    obtain ⟨m, hm, _⟩ := parseO_body hp
    obtain ⟨d, hd'⟩ := Lib.digit_of_decFrom _ _ _ hm _ c ((body_at hk).trans hc)
    rw [hd] at hd'
    cases hd'
theorem parseO_long {s : ByteArray} (h : 12 < s.size) : parseO s = none := by
  cases hp : parseO s with
  | none => rfl
  | some n => have := parseO_size hp; omega
/-- what the loop has read: the digits up to k -/
def ReadTo (s : ByteArray) (k m : Nat) : Prop := Lib.decFrom 0 ((body (negB s) s).take (k - sgn (negB s))) = some m
theorem ReadTo.start (s : ByteArray) : ReadTo s 0 0 := by simp [ReadTo, Lib.decFrom]
theorem ReadTo.skip {s : ByteArray} {m : Nat} (h : ReadTo s 0 m) (hn : negB s = true) : ReadTo s 1 m := by
  unfold ReadTo sgn at *
  rw [hn] at *
  simpa using h
theorem ReadTo.step {s : ByteArray} {k m : Nat} (h : ReadTo s k m) (hk : sgn (negB s) ≤ k) {c : UInt8} (hc : s.data.toList[k]? = some c) (h0 : 0 ≤ (c.toNat : Int) - 48) (h1 : (c.toNat : Int) - 48 ≤ 9) : ReadTo s (k + 1) (m * 10 + (c.toNat - 48)) := by
  unfold ReadTo at *
  rw [show k + 1 - sgn (negB s) = k - sgn (negB s) + 1 by omega]
  exact Lib.decFrom_take _ _ _ _ _ _ h ((body_at hk).trans hc) (digitVal_at h0 h1)
theorem ReadTo.lt {s : ByteArray} {k m : Nat} (h : ReadTo s k m) (hk : k ≤ 11) : m < 100000000000 := by
  have := Lib.decFrom_lt _ _ _ h
  have h2 : ((body (negB s) s).take (k - sgn (negB s))).length ≤ 11 := by rw [List.length_take]; omega
  have h3 : 10 ^ ((body (negB s) s).take (k - sgn (negB s))).length ≤ 10 ^ 11 := Nat.pow_le_pow_right (by decide) h2
  omega
theorem ReadTo.done {s : ByteArray} {m : Nat} (h : ReadTo s s.size m) {n : Int} (hp : parseO s = some n) : n = if negB s then -(m : Int) else m := by
  obtain ⟨m', h', e⟩ := parseO_body hp
  unfold ReadTo at h
  rw [List.take_of_length_le (by unfold body sgn; cases negB s <;> simp), h'] at h
  rw [e, Option.some.inj h]
theorem negB_at {s : ByteArray} (h : 0 < s.size) : negB s = (s[0] == 45) := by
  have := byte_at s 0 h
  unfold negB
  rw [List.head?_eq_getElem?, this]
  rfl

set_option maxHeartbeats 800000 in
theorem sParseInt_any (s : ByteArray) (w : World) (hs : s.size ≤ 100000000) :
    Calls Tryd.prog 42 #[.string s] w fun e w' => e = .returned (.tuple #[.int .i64 ((parseO s).getD 0), .bool (parseO s).isSome]) ∧ Ext w w' := by
  obtain ⟨o, ho⟩ : ∃ o, parseO s = o := ⟨_, rfl⟩
  rw [ho]
  have HO := hid ho
  clear ho
  by_cases h0 : 0 < s.size
  · have hneg := negB_at h0
    obtain ⟨neg, hn⟩ : ∃ b, negB s = b := ⟨_, rfl⟩
    have HN := hid hn
    rw [hn] at hneg
    have h45 : (((s[0].toNat : Int) == 45) = neg) := by
      rw [hneg]
      rw [Bool.eq_iff_iff, beq_iff_eq, beq_iff_eq, ← UInt8.toNat_inj]
      exact ⟨fun h => by simpa using (by omega : s[0].toNat = 45), fun h => by rw [h]; rfl⟩
    clear hn hneg
    go_enter Tryd.func42, Tryd.ntmps42
    go_wp2
    go_loopw [4, 6] (fun n i wr => ∃ k m : Nat, k ≤ s.size ∧ n = .int .i64 m ∧ i = .int .i64 k ∧ ReadTo s k m ∧ m < 1000000000000 ∧ (k = 0 ∨ sgn neg ≤ k) ∧ (k ≤ sgn neg ∨ s.size ≤ 12) ∧ w = wr) (fun _ i _ => s.size - (intOf i).toNat)
    case atStart => exact ⟨0, 0, by omega, rfl, rfl, ReadTo.start s, by omega, .inl rfl, .inl (by omega), rfl⟩
    case round =>
      obtain ⟨k, m, hk, rfl, rfl, hr, hm, hk0, hk1, rfl⟩ := hrel
      have HR := hid hr
      clear hr
      by_cases hlt : k < s.size
      · have HG := hid (byte_at s k hlt)
        have hcb : (s[k].toNat : Int) ≤ 255 := by have := UInt8.toNat_lt s[k]; omega
        by_cases hA : k = 0 ∧ neg = true
        · obtain ⟨rfl, rfl⟩ := hA
          go_wp2
          go_roundw
          case rel => exact ⟨1, m, by omega, rfl, rfl, HR.out.skip HN.out, hm, .inr (Nat.le_refl 1), .inl (Nat.le_refl 1), trivial⟩
          case measure => simp [intOf]; omega
        · have hB : ((k : Int) == 0 && neg) = false := by
            cases neg
            · simp
            · have : k ≠ 0 := fun e => hA ⟨e, rfl⟩
              have : ((k : Int) == 0) = false := by simp [this]
              rw [this]; rfl
          have hks : sgn neg ≤ k := by
            rcases hk0 with h | h
            · subst h
              cases neg
              · exact Nat.le_refl _
              · exact absurd ⟨rfl, rfl⟩ hA
            · exact h
          have hks2 : sgn (negB s) ≤ k := by rw [HN.out]; exact hks
          have HNone := hid (fun hq : Lib.digitVal s[k] = none => parseO_spoilt (c := s[k]) hks2 HG.out hq)
          have hdn : ¬ (0 ≤ (s[k].toNat : Int) - 48 ∧ (s[k].toNat : Int) - 48 ≤ 9) → Lib.digitVal s[k] = none := fun h => by unfold Lib.digitVal; rw [if_neg (by omega)]
          have HD := hid hdn
          clear hdn hB
          have hk2 : k = 0 ∧ neg = false ∨ k ≠ 0 := by
            by_cases h : k = 0
            · cases hn : neg
              · exact .inl ⟨h, rfl⟩
              · exact absurd ⟨h, hn⟩ hA
            · exact .inr h
          clear hA hk0
          by_cases h12 : s.size ≤ 12
          · have e12 : decide (12 < (s.size : Int)) = false := decide_eq_false (by omega)
            by_cases hd0 : 48 ≤ (s[k].toNat : Int)
            · have e0 : decide ((s[k].toNat : Int) - 48 < 0) = false := decide_eq_false (by omega)
              by_cases hd1 : (s[k].toNat : Int) - 48 ≤ 9
              · have e1 : decide (9 < (s[k].toNat : Int) - 48) = false := decide_eq_false (by omega)
                have HS := hid (HR.out.step hks2 HG.out (by omega) hd1)
                have hm2 : m < 100000000000 := HR.out.lt (by omega)
                rcases hk2 with ⟨rfl, rfl⟩ | hk2
                · go_wp2
                  go_roundw
                  case rel => exact ⟨1, _, by omega, by go_num, rfl, HS.out, by omega, .inr (by omega), .inr h12, trivial⟩
                  case measure => simp [intOf]; omega
                · have hk3 : ((k : Int) == 0) = false := by simp [hk2]
                  go_wp2
                  go_roundw
                  case rel => exact ⟨k + 1, _, by omega, by go_num, by go_num, HS.out, by omega, .inr (by omega), .inr h12, trivial⟩
                  case measure => simp [intOf]; omega
              · have e1 : decide (9 < (s[k].toNat : Int) - 48) = true := decide_eq_true (by omega)
                have eo : o = none := by rw [← HO.out]; exact HNone.out (HD.out (by omega))
                subst eo
                rcases hk2 with ⟨rfl, rfl⟩ | hk2
                · go_wp2
                  go_ret2
                  exact ⟨rfl, Ext.refl _⟩
                · have hk3 : ((k : Int) == 0) = false := by simp [hk2]
                  go_wp2
                  go_ret2
                  exact ⟨rfl, Ext.refl _⟩
            · have e0 : decide ((s[k].toNat : Int) - 48 < 0) = true := decide_eq_true (by omega)
              have eo : o = none := by rw [← HO.out]; exact HNone.out (HD.out (by omega))
              subst eo
              rcases hk2 with ⟨rfl, rfl⟩ | hk2
              · go_wp2
                go_ret2
                exact ⟨rfl, Ext.refl _⟩
              · have hk3 : ((k : Int) == 0) = false := by simp [hk2]
                go_wp2
                go_ret2
                exact ⟨rfl, Ext.refl _⟩
          · have e12 : decide (12 < (s.size : Int)) = true := decide_eq_true (by omega)
            have eo : o = none := by rw [← HO.out]; exact parseO_long (by omega)
            subst eo
            rcases hk2 with ⟨rfl, rfl⟩ | hk2
            · go_wp2
              all_goals go_ret2
              all_goals exact ⟨rfl, Ext.refl _⟩
            · have hk3 : ((k : Int) == 0) = false := by simp [hk2]
              go_wp2
              all_goals go_ret2
              all_goals exact ⟨rfl, Ext.refl _⟩
      · obtain rfl : k = s.size := by omega
        have hD := hid (fun n => HR.out.done (n := n))
        have hne : s.size ≠ 0 := by omega
        have hn := str_full hne
        have hF := fun (v : Int) => hid (fun w => sFormatInt_any v w)
        have hend : ∀ v : Int, (v = if neg then -(m : Int) else m) → (fmtT v = s → o = some v) ∧ (fmtT v ≠ s → o = none) := by
          intro v hv
          constructor
          · intro h
            rw [← HO.out, parseO_iff]
            exact ⟨h, hne⟩
          · intro h
            rw [← HO.out]
            cases hp : parseO s with
            | none => rfl
            | some n =>
              have := hD.out n hp
              rw [HN.out, ← hv] at this
              subst this
              exact absurd (parseO_iff.1 hp).1 h
        clear hF
        cases neg
        · have h2 := hid (hend m rfl)
          clear hend
          go_wp2_with fail
          refine (sFormatInt_any _ _).mono ?_
          rintro e w1 ⟨rfl, x1⟩
          by_cases he : fmtT (m : Int) = s
          · have c := str_same he
            have eo := h2.out.1 he
            subst eo
            clear he
            go_wp2
            go_ret2
            exact ⟨rfl, x1⟩
          · have c := str_other he
            have eo := h2.out.2 he
            subst eo
            go_wp2
            go_ret2
            exact ⟨rfl, x1⟩
        · have h2 := hid (hend (-(m : Int)) rfl)
          clear hend
          go_wp2_with fail
          refine (sFormatInt_any _ _).mono ?_
          rintro e w1 ⟨rfl, x1⟩
          by_cases he : fmtT (-(m : Int)) = s
          · have c := str_same he
            have eo := h2.out.1 he
            subst eo
            clear he
            go_wp2
            go_ret2
            exact ⟨rfl, x1⟩
          · have c := str_other he
            have eo := h2.out.2 he
            subst eo
            go_wp2
            go_ret2
            exact ⟨rfl, x1⟩
  · have e : s = ⟨#[]⟩ := bytes_ext (List.eq_nil_of_length_eq_zero (by have : s.data.toList.length = s.size := by simp
                                                                       omega))
    subst e
    have eo : o = none := by
      rw [← HO.out]
      cases hp : parseO (⟨#[]⟩ : ByteArray) with
      | none => rfl
      | some n => exact absurd rfl (parseO_iff.1 hp).2
    subst eo
    go_enter Tryd.func42, Tryd.ntmps42
    go_wp2
    refine wp_loop_rounds 1 ?_
    rw [rounds_succ]
    go_wp2
    go_ret2
    exact ⟨rfl, Ext.refl _⟩
end Go.Proofs.YtodblnccgpiigaaDoor
