/- Words and laws for the shell's own records. Over the whole program of the cut; no condition beyond those that each theorem names. -/
import Derived.Test.YtkoipiolcnielaaGreatDoorShBase
import Derived.Test.YtkoipiolcnielaaGreatDoorProg
namespace Go.Proofs.Sh
open Go.RowKit

/-- the world with another object in block r -/
def setObjW (w : World) (r : Nat) (o : Obj) : World := ⟨w.heap.setIfInBounds r o, w.tape, w.drawn, w.os, w.output⟩

theorem run_checkStr {P : Program} {kt : TypeId} (hkt : P.underlying kt = some .string) (b : Bool) (k : ByteArray) (w : World) :
    (Instr.checkKey b 10000 kt (.string k)).run P w = .ok () w := by
  rw [show (10000 : Nat) = 9999 + 1 from rfl, Instr.checkKey]
  simp [run_underlying hkt, Result.andThen]

theorem run_insert {P : Program} {t kt et : TypeId} (ht : P.underlying t = some (.map kt et)) (hkt : P.underlying kt = some .string)
    (w : World) (r : Nat) (es : List MapEntry) (ck : Nat) (ks : List ByteArray) (hm : w.heap[r]? = some (.map es.toArray ck)) (hk : keysOf es ks)
    (k : ByteArray) (hn : ks.findIdx? (· == k) = none) (v : Value) :
    (Instr.mapUpdate t (.map (some r)) (.string k) v).run P w = .ok () (setObjW w r (.map (es ++ [MapEntry.mk (.string k) v ck]).toArray (ck + 1))) := by
  have hf := findNow_keys k es ks 0 hk
  rw [hn] at hf
  unfold Instr.mapUpdate
  simp [run_underlying ht, MapKept.run_getObj_map hm, run_checkStr hkt, Instr.findKey, run_underlying hkt, hf, MapKept.run_setObj_map _ hm, setObjW, Result.andThen]

theorem run_lookup_ok {P : Program} {t kt et : TypeId} (ht : P.underlying t = some (.map kt et)) (hkt : P.underlying kt = some .string)
    (w : World) (r : Nat) (es : List MapEntry) (ck : Nat) (ks : List ByteArray) (hm : w.heap[r]? = some (.map es.toArray ck)) (hk : keysOf es ks)
    (k : ByteArray) (j : Nat) (e : MapEntry) (hn : ks.findIdx? (· == k) = some j) (he : es[j]? = some e) :
    (Instr.lookup t (.map (some r)) (.string k) true).run P w = .ok (.tuple #[e.val, .bool true]) w := by
  have hf := findNow_keys k es ks 0 hk
  rw [hn] at hf
  unfold Instr.lookup
  simp [run_underlying ht, MapKept.run_getObj_map hm, run_checkStr hkt, Instr.findKey, run_underlying hkt, hf, he, Result.andThen]

section
variable {P : Program} {ops : Array Oper} {Q : Exit → Act → World → Prop} {a : Act} {w : World} {rest : List Oper} {o : Oper}
theorem st_value {v : Value} {w' : World} (hg : o.guard = none) (hr : (execOp a.eval o).run P w = .ok (.value v) w')
    (h : wpList P ops Q rest (a.put o.dst v) w') : wpList P ops Q (o :: rest) a w := by
  refine wpList_plain hg fun K hK => ?_
  unfold Oper.wp; rw [hr]; exact hK _ _ h
theorem st_skip {w' : World} (hg : o.guard = none) (hr : (execOp a.eval o).run P w = .ok .skip w')
    (h : wpList P ops Q rest (a.put o.dst undef) w') : wpList P ops Q (o :: rest) a w := by
  refine wpList_plain hg fun K hK => ?_
  unfold Oper.wp; rw [hr]; exact hK _ _ h
theorem st_call {f : FuncId} {args : Array Value} {w' : World} {R : Ending → World → Prop} (hg : o.guard = none) (hr : (execOp a.eval o).run P w = .ok (.enter f args) w')
    (hc : Calls P f args w' R) (h : ∀ e w'', R e w'' → ∃ v, e = .returned v ∧ wpList P ops Q rest (a.put o.dst v) w'') : wpList P ops Q (o :: rest) a w := by
  refine wpList_plain hg fun K hK => ?_
  unfold Oper.wp; rw [hr]
  refine hc.mono fun e w'' hR => ?_
  obtain ⟨v, rfl, hw⟩ := h e w'' hR
  exact hK _ _ hw
end

theorem kinds_any (v : Value) (w : World) : Calls Tryz.prog 40 #[v] w fun e w' => e = .returned v ∧ w = w' := by
  go_enter Tryz.func40, Tryz.ntmps40
  go_wp2
  go_ret
  exact ⟨rfl, rfl⟩

theorem build69 (fid : Nat) (s : Value) (g : Addr) (n c : Nat) (m : Int) (w : World) :
    (Instr.build 69 #[(0, .func (.func fid) #[s] #[]), (1, .slice (some g) n c), (2, .int .u8 m)]).run Tryz.prog w = .ok (.agg #[.func (.func fid) #[s] #[], .slice (some g) n c, .int .u8 m]) w := by kernel_rfl

/-- What is known of the frame of (*Shell).commands. -/
structure FrOk (s mp kp : Value) (a : Act) : Prop where
  size : a.tmps.size = 179
  t0 : a.tmps.getD 0 undef = s
  t3 : a.tmps.getD 3 undef = .func (.func 40) #[] #[]
  t4 : a.tmps.getD 4 undef = kp
  t8 : a.tmps.getD 8 undef = mp
  df : a.defers = []

theorem getD_set (xs : Array Value) (i j : Nat) (v : Value) (h : i ≠ j) : (xs.setIfInBounds i v).getD j undef = xs.getD j undef := by
  simp [Array.getD_eq_getD_getElem?, h]
theorem getD_set_same (xs : Array Value) (i : Nat) (v : Value) (h : i < xs.size) : (xs.setIfInBounds i v).getD i undef = v := by
  simp [Array.getD_eq_getD_getElem?, h]

theorem FrOk.put {s mp kp : Value} {a : Act} (h : FrOk s mp kp a) (d : Nat) (v : Value) (h9 : 8 < d) : FrOk s mp kp (a.put (some d) v) := by
  refine ⟨by simp [Act.put, h.size], ?_, ?_, ?_, ?_, h.df⟩ <;> (simp only [Act.put]; rw [getD_set _ _ _ _ (by omega)]; first | exact h.t0 | exact h.t3 | exact h.t4 | exact h.t8)
theorem FrOk.got {s mp kp : Value} {a : Act} (h : FrOk s mp kp a) (d : Nat) (v : Value) (h9 : d < 179) : (a.put (some d) v).tmps.getD d undef = v := by
  simp only [Act.put]; exact getD_set_same _ _ _ (by rw [h.size]; exact h9)
theorem put_other (a : Act) (d e : Nat) (v : Value) (h : d ≠ e) : (a.put (some d) v).tmps.getD e undef = a.tmps.getD e undef := by
  simp only [Act.put]; exact getD_set _ _ _ _ h
theorem put_none (a : Act) (v : Value) : a.put none v = a := rfl

/-- What a verb stands for: the method, the kinds of words, the kind that may come again. -/
structure Verb where
  name : ByteArray
  fid : Nat
  wants : List Int
  more : Int

/-- The value that stands in the map for a verb. -/
def VerbVal (s : Value) (B : Nat) (w : World) (x : Verb) (v : Value) : Prop :=
  ∃ g c, B ≤ g ∧ v = .agg #[.func (.func x.fid) #[s] #[], .slice (some ⟨g, 0, none⟩) x.wants.length c, .int .u8 x.more] ∧
    w.heap[g]? = some (.cells (x.wants.map (Value.int .u8)).toArray 67)

end Go.Proofs.Sh
