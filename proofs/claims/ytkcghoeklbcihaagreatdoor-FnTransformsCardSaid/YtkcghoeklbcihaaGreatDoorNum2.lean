/- This text proves what ParseInt of both sides hands back for every string. -/
import Derived.Test.YtkcghoeklbcihaaGreatDoorNum
namespace Go.Proofs.YtkcghoeklbcihaaGreatDoor
open Go.RowKit

/-- the two sentinel errors of strconv lie in w -/
def Errs (w : World) : Prop := (∃ tp p, w.var? Tryz.prog "strconv.ErrSyntax" = some #[.iface tp p]) ∧ (∃ tp p, w.var? Tryz.prog "strconv.ErrRange" = some #[.iface tp p])
theorem gSyn : ∃ g, Tryz.prog.globalNamed "strconv.ErrSyntax" = some g := ⟨1, by kernel_rfl⟩
theorem gRan : ∃ g, Tryz.prog.globalNamed "strconv.ErrRange" = some g := ⟨2, by kernel_rfl⟩
theorem Errs.ext {w w' : World} (h : Errs w) (e : Ext w w') : Errs w' := by
  obtain ⟨⟨tp, p, h1⟩, tp', p', h2⟩ := h
  obtain ⟨g, hg⟩ := gSyn
  obtain ⟨g', hg'⟩ := gRan
  exact ⟨⟨tp, p, Go.Joins.var_stays hg h1 e (Nat.le_refl _)⟩, tp', p', Go.Joins.var_stays hg' h2 e (Nat.le_refl _)⟩
/-- what the library's text lays in variables, as this claim's walks read it -/
def Laid (w : World) : Prop := Tab w ∧ Errs w
theorem Laid.ext {w w' : World} (h : Laid w) (e : Ext w w') : Laid w' := ⟨h.1.ext e, h.2.ext e⟩
theorem Ext.bytes {w : World} {t : TypeId} (l : ByteArray) : Ext w (Lib.bytesWorld w t l) := by
  exact Lib.bytesWorld_below _ _ _
/-- how the walk spells tests of strings -/
theorem str_full {s : ByteArray} (h : s.size ≠ 0) : s.toList.isEmpty = false := by
  rw [ByteArray.toList_eq]
  cases e : s.data.toList with
  | nil => exact absurd (by simpa using congrArg List.length e) h
  | cons => rfl
theorem str_none {s : ByteArray} (h : s.size = 0) : s.toList.isEmpty = true := by
  rw [ByteArray.toList_eq, List.eq_nil_of_length_eq_zero (show s.data.toList.length = 0 by simpa using h)]
  rfl
theorem str_same {a b : ByteArray} (h : a = b) : (a.toList == b.toList) = true := by subst h; simp
theorem str_other {a b : ByteArray} (h : a ≠ b) : (a.toList == b.toList) = false := by
  rw [ByteArray.toList_eq, ByteArray.toList_eq, beq_eq_false_iff_ne]
  exact fun e => h (bytes_ext e)

theorem atoi_ok {s : ByteArray} (hs : s.size ≤ 100000000) {v : Int} (h : Lib.atoiAll s.data.toList = .ok v) (w : World) :
    Calls Tryz.prog 64 #[.string s] w fun e w' => e = .returned (.tuple #[.int .i64 v, .nilIface]) ∧ Ext w w' := by
  refine (Tryz.strconv_Atoi_ok s (by omega) v h w).mono ?_
  rintro e w' ⟨rfl, hw⟩
  rcases hw with rfl | ⟨t, rfl⟩
  · exact ⟨rfl, Ext.refl _⟩
  · exact ⟨rfl, Ext.bytes t⟩
theorem atoi_no {s : ByteArray} (hs : s.size ≤ 100000000) (h : ∀ n, Lib.atoiAll s.data.toList ≠ .ok n) (w : World) (he : Errs w) :
    Calls Tryz.prog 64 #[.string s] w fun e w' => ∃ n t p, e = .returned (.tuple #[.int .i64 n, .iface t p]) ∧ Ext w w' := by
  obtain ⟨⟨tp, p, h1⟩, tp', p', h2⟩ := he
  cases ha : Lib.atoiAll s.data.toList
  · exact absurd ha (h _)
  · refine (Any.strconv_Atoi_syntax_var Tryz.laysC172 s (by omega) ha tp p w h1).mono ?_
    rintro e w' ⟨N, rfl, _, _, hb⟩
    exact ⟨_, _, _, rfl, hb⟩
  · refine (Any.strconv_Atoi_range_var Tryz.laysC172 s (by omega) ha tp' p' w h2).mono ?_
    rintro e w' ⟨N, rfl, _, _, hb⟩
    exact ⟨_, _, _, rfl, hb⟩

set_option maxHeartbeats 800000 in
theorem iParseInt_any (s : ByteArray) (w : World) (hs : s.size ≤ 100000000) (ht : Laid w) :
    Calls Tryz.prog 45 #[.string s] w fun e w' => e = .returned (.tuple #[.int .i64 ((parseO s).getD 0), .bool (parseO s).isSome]) ∧ Ext w w' := by
  have HT := hid ht
  clear ht
  obtain ⟨o, ho⟩ : ∃ o, parseO s = o := ⟨_, rfl⟩
  rw [ho]
  have HO := hid ho
  clear ho
  cases ha : Lib.atoiAll s.data.toList with
  | ok v =>
    have hb := Lib.atoiAll_bounds ha
    have HA := hid ha
    have hne : s.size ≠ 0 := by
      intro h
      have e : s.data.toList = [] := List.eq_nil_of_length_eq_zero (by simpa using h)
      rw [e] at ha
      cases ha
    have HV := hid (show I64 v from ⟨hb.1, hb.2⟩)
    clear ha hb
    go_enter Tryz.func45, Tryz.ntmps45
    go_wp2_with fail
    refine (atoi_ok hs HA.out _).mono ?_
    rintro e w1 ⟨rfl, x1⟩
    have hn := str_full hne
    go_wp2_with fail
    refine (iFormatInt_any _ _ HV.out (HT.out.1.ext x1)).mono ?_
    rintro e w2 ⟨rfl, x2⟩
    go_wp2
    · have hc : (!(fmtT v).toList == s.toList) = true := by assumption
      go_ret2
      have e : o = none := by
        rw [← HO.out]
        exact parseO_not HA.out fun h => by rw [str_same h.1] at hc; cases hc
      subst e
      exact ⟨rfl, x1.trans x2⟩
    · have hc : (!(fmtT v).toList == s.toList) = false := by assumption
      go_ret2
      have e : o = some v := by
        rw [← HO.out, parseO_iff]
        refine ⟨?_, hne⟩
        by_cases h : fmtT v = s
        · exact h
        · rw [str_other h] at hc; cases hc
      subst e
      exact ⟨rfl, x1.trans x2⟩
  | _ =>
    have hn := hid (show ∀ n, Lib.atoiAll s.data.toList ≠ .ok n from fun n e => by rw [ha] at e; cases e)
    clear ha
    have e : o = none := by rw [← HO.out]; exact parseO_bad hn.out
    subst e
    go_enter Tryz.func45, Tryz.ntmps45
    go_wp2_with fail
    refine (atoi_no hs hn.out _ HT.out.2).mono ?_
    rintro e w1 ⟨n, t, p, rfl, x1⟩
    go_wp2
    go_ret2
    exact ⟨rfl, x1⟩
end Go.Proofs.YtkcghoeklbcihaaGreatDoor
