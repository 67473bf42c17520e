/- This text proves what the program's table of functions of the shading language holds, and how one is looked up. -/
import Derived.Test.YtaegmenjgjdimaaGreatSh6
import Derived.Maps.Own
import Derived.WideMake
namespace Go.Proofs.YtaegmenjgjdimaaGreat
open Go.RowKit

theorem run_insert (w : World) (mty kt et : TypeId) (r clock : Nat) (es : Array MapEntry) (s : ByteArray) (val : Value) (hm : Tryz.prog.underlying mty = some (.map kt et)) (hk : Tryz.prog.underlying kt = some .string) (hb : w.heap[r]? = some (.map es clock)) (hf : Instr.findNow .string (.string s) es.toList 0 = some none) :
    (Instr.mapUpdate mty (.map (some r)) (.string s) val).run Tryz.prog w = .ok () { w with heap := w.heap.setIfInBounds r (.map (es.push { key := .string s, val := val, born := clock }) (clock + 1)) } := by
  have hc : (Instr.checkKey false 10000 kt (.string s)).run Tryz.prog w = .ok () w := MapKept.run_checkKey (k := .string s) hk (by simp [MapKept.IsKey]) false 9999
  simp [Instr.mapUpdate, run_underlying hm, MapKept.run_getObj_map hb, hc, MapKept.run_findKey hk hf, MapKept.run_setObj_map _ hb, Result.andThen]
theorem wpList_ins (w : World) {ops : Array Oper} {rest : List Oper} {o : Oper} {a : Act} {Q : Exit → Act → World → Prop} (hg : o.guard = none) (m x v : Operand) (hop : o.op = Op.insert 166 m x v) (hd : o.dst = none)
    (b clock : Nat) (es : Array MapEntry) (hm : a.eval m = .map (some b)) (hb : w.heap[b]? = some (.map es clock)) (s : ByteArray) (hx : a.eval x = .string s) (val : Value) (hv : a.eval v = val) (hf : Instr.findNow .string (.string s) es.toList 0 = some none)
    (hK : ∀ w', w'.heap[b]? = some (.map (es.push { key := .string s, val := val, born := clock }) (clock + 1)) → w.grownBy w' (some b) → wpList Tryz.prog ops Q rest a w') : wpList Tryz.prog ops Q (o :: rest) a w := by
  refine wpList_plain hg fun K' hK' => ?_
  have hrun := run_insert w 166 9 _ b clock es s val Tryz.underlying166 Tryz.underlying9 hb hf
  have h1 := (MapKept.heap_set (o' := .map (es.push { key := .string s, val := val, born := clock }) (clock + 1)) hb).1
  have h2 := (MapKept.heap_set (o' := .map (es.push { key := .string s, val := val, born := clock }) (clock + 1)) hb).2
  unfold Oper.wp
  simp [execOp, hop, hm, hx, hv, hrun, Result.andThen]
  refine hK' _ _ ?_
  rw [hd]
  exact hK _ h1 ⟨rfl, rfl, rfl, by simp, fun i _ hi => h2 i (fun e => hi (by rw [e]))⟩

/-- the table's entries -/
def fnEntries : Array MapEntry := #[{ key := .string ⟨#[97, 98, 115]⟩, val := .func (.func 120) #[] #[], born := 0 }, { key := .string ⟨#[102, 108, 111, 111, 114]⟩, val := .func (.func 121) #[] #[], born := 1 }, { key := .string ⟨#[109, 105, 110]⟩, val := .func (.func 122) #[] #[], born := 2 }, { key := .string ⟨#[109, 97, 120]⟩, val := .func (.func 123) #[] #[], born := 3 }, { key := .string ⟨#[115, 116, 101, 112]⟩, val := .func (.func 124) #[] #[], born := 4 }, { key := .string ⟨#[110, 111, 105, 115, 101]⟩, val := .func (.func 125) #[] #[], born := 5 }, { key := .string ⟨#[99, 108, 97, 109, 112]⟩, val := .func (.func 126) #[] #[], born := 6 }, { key := .string ⟨#[109, 105, 120]⟩, val := .func (.func 127) #[] #[], born := 7 }, { key := .string ⟨#[116, 101, 120]⟩, val := .func (.func 128) #[] #[], born := 8 }]
set_option maxHeartbeats 1600000 in
theorem pointwise_any (w : World) : Calls Tryz.prog 94 #[] w fun e w' => ∃ b, e = .returned (.map (some b)) ∧ w.heap.size ≤ b ∧ b < w'.heap.size ∧ w'.heap[b]? = some (.map fnEntries 9) ∧ Ext w w' := by
  go_enter Tryz.func94, Tryz.ntmps94
  have hmk := run_makeMap (P := Tryz.prog) 166 w
  have hb0 : (w.alloc (.map #[] 0)).heap[w.heap.size]? = some (.map #[] 0) := hnew _ _
  have X : Ext w (w.alloc (.map #[] 0)) := (by repeat (with_reducible (first | assumption | exact Ext.refl _ | apply Ext.alloc | apply Ext.drew | apply Ext.drewN)))
  have hs : w.heap.size < (w.alloc (.map #[] 0)).heap.size := by simp
  go_wp2_with (refine wpList_ins _ rfl _ _ _ rfl rfl w.heap.size _ _ rfl (by assumption) _ rfl _ rfl rfl ?_; clear hb0; intro w1 hb0 hg1; replace X := Ext.grown X hg1 (fun k hk => by simp at hk; omega); replace hs := Nat.lt_of_lt_of_le hs hg1.size; clear hg1)
  go_ret
  exact ⟨_, rfl, Nat.le_refl _, hs, hb0.trans rfl, X⟩
end Go.Proofs.YtaegmenjgjdimaaGreat
