/- Bytes, lines and words of a text: the plain laws behind the shell's lines. Over the whole program of the cut; no condition beyond those that each theorem names. -/
import Derived.Test.YtkoipiolcnielaaGreatDoorShC
import Derived.BigFrame
namespace Go.Proofs.Sh
open Go.RowKit

def keptCells : Array Value := #[.int .u8 7, .int .u8 7, .int .u8 7, .int .u8 7, .int .u8 11, .int .u8 8, .int .u8 7]

/-- A value that stands in the map for a verb, if it is one that is looked at. -/
def ValOk (s : Value) (B : Nat) (w : World) (x : Verb) (kn : Bool) (v : Value) : Prop := kn = true → VerbVal s B w x v

/-- What holds while the map of the commands is made. -/
structure CmdInv (B M kb : Nat) (s : Value) (L : List (Verb × Bool)) (W w : World) : Prop where
  below : Below B W w
  base : B ≤ M
  lt : M < w.heap.size
  kept : B ≤ kb ∧ w.heap[kb]? = some (.cells keptCells 67)
  map : ∃ es : List MapEntry, w.heap[M]? = some (.map es.toArray L.length) ∧ keysOf es (L.map (·.1.name)) ∧
    ∀ (j : Nat) x, L[j]? = some x → ∃ e, es[j]? = some e ∧ ValOk s B w x.1 x.2 e.val

theorem VerbVal.later {s : Value} {B : Nat} {w w' : World} {x : Verb} {v : Value} (h : VerbVal s B w x v) (hw : ∀ (g : Nat) (o : Array Value), w.heap[g]? = some (.cells o 67) → w'.heap[g]? = some (.cells o 67)) : VerbVal s B w' x v := by
  obtain ⟨g, c, h1, h2, h3⟩ := h
  exact ⟨g, c, h1, h2, hw _ _ h3⟩

theorem alloc_old {w : World} {o o' : Obj} {g : Nat} (h : w.heap[g]? = some o) : (w.alloc o').heap[g]? = some o := by
  rw [Below.heap_alloc _ _ _ (Array.getElem?_eq_some_iff.1 h).1]; exact h

theorem CmdInv.alloc {B M kb : Nat} {s : Value} {L : List (Verb × Bool)} {W w : World} (h : CmdInv B M kb s L W w) (o : Obj) : CmdInv B M kb s L W (w.alloc o) := by
  obtain ⟨es, h1, h2, h3⟩ := h.map
  refine ⟨h.below.alloc (by have := h.base; have := h.lt; omega) o, h.base, by have := h.lt; simp; omega, ⟨h.kept.1, alloc_old h.kept.2⟩, es, alloc_old h1, h2, fun j x hx => ?_⟩
  obtain ⟨e, he, hv⟩ := h3 j x hx
  exact ⟨e, he, fun hk => (hv hk).later fun g o hg => alloc_old hg⟩

theorem CmdInv.later {B M kb : Nat} {s : Value} {L : List (Verb × Bool)} {W w w' : World} (h : CmdInv B M kb s L W w) (hb : Below w.heap.size w w') : CmdInv B M kb s L W w' := by
  obtain ⟨es, h1, h2, h3⟩ := h.map
  have hold : ∀ (g : Nat) (o : Obj), w.heap[g]? = some o → w'.heap[g]? = some o := fun g o hg => by
    rw [hb.block _ (Array.getElem?_eq_some_iff.1 hg).1]; exact hg
  refine ⟨h.below.trans (hb.mono (by have := h.base; have := h.lt; omega)), h.base, Nat.lt_of_lt_of_le h.lt hb.size, ⟨h.kept.1, hold _ _ h.kept.2⟩, es, hold _ _ h1, h2, fun j x hx => ?_⟩
  obtain ⟨e, he, hv⟩ := h3 j x hx
  exact ⟨e, he, fun hk => (hv hk).later fun g o hg => hold _ _ hg⟩

theorem setObjW_other {w : World} {r : Nat} {o : Obj} {g : Nat} (h : g ≠ r) : (setObjW w r o).heap[g]? = w.heap[g]? := by
  simp [setObjW, Ne.symm h]
theorem setObjW_same {w : World} {r : Nat} {o : Obj} (h : r < w.heap.size) : (setObjW w r o).heap[r]? = some o := by
  simp [setObjW, h]
theorem setObjW_below {B r : Nat} {W w : World} {o : Obj} (h : Below B W w) (hr : B ≤ r) : Below B W (setObjW w r o) :=
  h.trans ⟨rfl, rfl, rfl, by simp [setObjW], fun k hk => setObjW_other (by omega)⟩

theorem CmdInv.insert {B M kb : Nat} {s : Value} {L : List (Verb × Bool)} {W w : World} (h : CmdInv B M kb s L W w) (x : Verb) (kn : Bool) (v : Value)
    (hv : ValOk s B w x kn v) (hnew : (L.map (·.1.name)).findIdx? (· == x.name) = none) :
    ∃ w', (Instr.mapUpdate 71 (.map (some M)) (.string x.name) v).run Tryz.prog w = .ok () w' ∧ CmdInv B M kb s (L ++ [(x, kn)]) W w' := by
  obtain ⟨es, h1, h2, h3⟩ := h.map
  refine ⟨_, run_insert Tryz.underlying71 Tryz.underlying9 w M es _ _ h1 h2 x.name hnew v, ?_⟩
  have hlen : es.length = L.length := by simpa using congrArg List.length h2
  have hc : ∀ (g : Nat) (o : Array Value) (t : TypeId), w.heap[g]? = some (.cells o t) → (setObjW w M (.map (es ++ [MapEntry.mk (.string x.name) v L.length]).toArray (L.length + 1))).heap[g]? = some (.cells o t) := fun g o t hg => by
    rw [setObjW_other (by rintro rfl; rw [h1] at hg; cases hg)]; exact hg
  refine ⟨setObjW_below h.below h.base, h.base, by simpa [setObjW] using h.lt, ⟨h.kept.1, hc _ _ _ h.kept.2⟩, es ++ [MapEntry.mk (.string x.name) v L.length], by rw [setObjW_same h.lt]; simp, ?_, fun j y hy => ?_⟩
  · simp only [keysOf, List.map_append] at h2 ⊢; rw [h2]; simp
  · by_cases hj : j < L.length
    · rw [List.getElem?_append_left hj] at hy
      obtain ⟨e, he, hv'⟩ := h3 j y hy
      exact ⟨e, by rw [List.getElem?_append_left (by omega)]; exact he, fun hk => (hv' hk).later fun g o hg => hc _ _ _ hg⟩
    · rw [List.getElem?_append_right (by omega)] at hy
      have hj0 : j - L.length = 0 := by
        have := (List.getElem?_eq_some_iff.1 hy).1; simp at this; omega
      rw [hj0] at hy
      simp only [List.getElem?_cons_zero, Option.some.injEq] at hy
      subst hy
      refine ⟨_, by rw [List.getElem?_append_right (by omega), hlen, hj0]; rfl, fun hk => (hv hk).later fun g o hg => hc _ _ _ hg⟩

theorem build69n (fid : Nat) (s : Value) (m : Int) (w : World) :
    (Instr.build 69 #[(0, .func (.func fid) #[s] #[]), (1, .slice none 0 0), (2, .int .u8 m)]).run Tryz.prog w = .ok (.agg #[.func (.func fid) #[s] #[], .slice none 0 0, .int .u8 m]) w := by kernel_rfl

theorem info67 : Tryz.prog.info? 67 = some Tryz.t67 := by kernel_rfl

theorem makeFunc_run (fn : Fn) (first cap : Array Value) (w : World) : (Instr.makeFunc fn first cap).run Tryz.prog w = .ok (.func fn first cap) w := rfl

section
variable {ops : Array Oper} {Q : Exit → Act → World → Prop} {rest : List Oper} {a : Act} {w : World} {B M kb : Nat} {s : Value} {W : World} {L : List (Verb × Bool)} {kp : Value}
/-- One line of the table of commands. -/
theorem entry_step (x : Verb) (t1 t2 t3 t4 t5 t6 : Nat) (n : Nat) (parts : Array (Nat × Operand)) {y0 y1 y2 y3 y4 y5 y6 : TypeId} {p0 p1 p2 p3 p4 p5 p6 : String} {e0 e1 e2 e3 e4 e5 e6 : Array Edge} {ats : Array TypeId}
    (ht : 8 < t1 ∧ t1 < t2 ∧ t2 < t3 ∧ t3 < t4 ∧ t4 < t5 ∧ t5 < t6 ∧ t6 < 179) (hn : x.wants.length = n)
    (hbs : ∀ (a : Act) (w : World), (Instr.buildSlice 66 n (parts.map fun (i, x) => (i, a.eval x))).run Tryz.prog w = .ok (.slice (some ⟨w.heap.size, 0, none⟩) n n) (w.alloc (.cells (x.wants.map (Value.int .u8)).toArray 67)))
    (hnew : (L.map (·.1.name)).findIdx? (· == x.name) = none)
    (hf : FrOk s (.map (some M)) kp a) (hi : CmdInv B M kb s L W w)
    (hK : ∀ a' w', FrOk s (.map (some M)) kp a' → CmdInv B M kb s (L ++ [(x, true)]) W w' → wpList Tryz.prog ops Q rest a' w') :
    wpList Tryz.prog ops Q
      (⟨some t1, .move (.tmp 0), y0, p0, e0, none⟩ :: ⟨some t2, .makeFunc (.func x.fid) #[.tmp t1] #[], y1, p1, e1, none⟩ :: ⟨some t3, .move (.tmp 3), y2, p2, e2, none⟩ ::
       ⟨some t4, .buildSlice 66 n parts, y3, p3, e3, none⟩ :: ⟨some t5, .call { callee := .value (.tmp t3), args := #[.tmp t4], argTypes := ats }, y4, p4, e4, none⟩ ::
       ⟨some t6, .build 69 #[(0, .tmp t2), (1, .tmp t5), (2, .const (.int .u8 x.more))], y5, p5, e5, none⟩ ::
       ⟨none, .insert 71 (.tmp 8) (.const (.string x.name)) (.tmp t6), y6, p6, e6, none⟩ :: rest) a w := by
  obtain ⟨k1, k2, k3, k4, k5, k6, k7⟩ := ht
  -- move
  refine st_value (v := s) (w' := w) rfl (by simp only [execOp, Act.eval, hf.t0]; rfl) ?_
  have hf1 := hf.put t1 s k1
  have g1 := hf.got t1 s (by omega)
  generalize a.put (some t1) s = a1 at *
  -- makeFunc
  refine st_value (v := .func (.func x.fid) #[s] #[]) (w' := w) rfl (by simp [execOp, Act.eval, g1, makeFunc_run, Result.andThen]) ?_
  have hf2 := hf1.put t2 (.func (.func x.fid) #[s] #[]) (by omega)
  have g2 := hf1.got t2 (.func (.func x.fid) #[s] #[]) (by omega)
  generalize a1.put (some t2) (.func (.func x.fid) #[s] #[]) = a2 at *
  -- move
  refine st_value (v := .func (.func 40) #[] #[]) (w' := w) rfl (by simp only [execOp, Act.eval, hf2.t3]; rfl) ?_
  have hf3 := hf2.put t3 (.func (.func 40) #[] #[]) (by omega)
  have g3 := hf2.got t3 (.func (.func 40) #[] #[]) (by omega)
  have g32 : (a2.put (some t3) (.func (.func 40) #[] #[])).tmps.getD t2 undef = _ := (put_other a2 t3 t2 _ (by omega)).trans g2
  generalize a2.put (some t3) (.func (.func 40) #[] #[]) = a3 at *
  -- buildSlice
  refine st_value (v := .slice (some ⟨w.heap.size, 0, none⟩) n n) (w' := w.alloc (.cells (x.wants.map (Value.int .u8)).toArray 67)) rfl (by simp only [execOp, Sem.run_bind, hbs a3 w, Result.andThen]; rfl) ?_
  have hi4 := hi.alloc (.cells (x.wants.map (Value.int .u8)).toArray 67)
  have hcell : (w.alloc (.cells (x.wants.map (Value.int .u8)).toArray 67)).heap[w.heap.size]? = some (.cells (x.wants.map (Value.int .u8)).toArray 67) := by show (w.heap.push _)[w.heap.size]? = _; simp
  have hBw : B ≤ w.heap.size := by have := hi.base; have := hi.lt; omega
  generalize w.alloc (.cells (x.wants.map (Value.int .u8)).toArray 67) = w4 at *
  generalize w.heap.size = g at *
  have hf4 := hf3.put t4 (.slice (some ⟨g, 0, none⟩) n n) (by omega)
  have g4 := hf3.got t4 (.slice (some ⟨g, 0, none⟩) n n) (by omega)
  have g42 : (a3.put (some t4) (.slice (some ⟨g, 0, none⟩) n n)).tmps.getD t2 undef = _ := (put_other a3 t4 t2 _ (by omega)).trans g32
  have g43 : (a3.put (some t4) (.slice (some ⟨g, 0, none⟩) n n)).tmps.getD t3 undef = _ := (put_other a3 t4 t3 _ (by omega)).trans g3
  generalize a3.put (some t4) (.slice (some ⟨g, 0, none⟩) n n) = a4 at *
  -- call
  refine st_call (f := 40) (args := #[.slice (some ⟨g, 0, none⟩) n n]) (w' := w4) rfl (by simp only [execOp, Act.eval, resolve, Deferred.ofValue, invoke, List.map_toArray, List.map_cons, List.map_nil, g43, g4, Sem.run_bind, Result.andThen]; exact Tryz.call40 _ _) (kinds_any _ _) ?_
  rintro e w5 ⟨rfl, rfl⟩
  refine ⟨_, rfl, ?_⟩
  have hf5 := hf4.put t5 (.slice (some ⟨g, 0, none⟩) n n) (by omega)
  have g5 := hf4.got t5 (.slice (some ⟨g, 0, none⟩) n n) (by omega)
  have g52 : (a4.put (some t5) (.slice (some ⟨g, 0, none⟩) n n)).tmps.getD t2 undef = _ := (put_other a4 t5 t2 _ (by omega)).trans g42
  generalize a4.put (some t5) (.slice (some ⟨g, 0, none⟩) n n) = a5 at *
  -- build
  refine st_value (v := .agg #[.func (.func x.fid) #[s] #[], .slice (some ⟨g, 0, none⟩) n n, .int .u8 x.more]) (w' := w4) rfl (by
    have hb := build69 x.fid s ⟨g, 0, none⟩ n n x.more w4
    simp only [execOp, Act.eval, List.map_toArray, List.map_cons, List.map_nil, g52, g5, Sem.run_bind, hb, Result.andThen]; rfl) ?_
  have hf6 := hf5.put t6 (.agg #[.func (.func x.fid) #[s] #[], .slice (some ⟨g, 0, none⟩) n n, .int .u8 x.more]) (by omega)
  have g6 := hf5.got t6 (.agg #[.func (.func x.fid) #[s] #[], .slice (some ⟨g, 0, none⟩) n n, .int .u8 x.more]) (by omega)
  generalize a5.put (some t6) (.agg #[.func (.func x.fid) #[s] #[], .slice (some ⟨g, 0, none⟩) n n, .int .u8 x.more]) = a6 at *
  -- insert
  obtain ⟨w', hrun, hi'⟩ := hi4.insert x true (.agg #[.func (.func x.fid) #[s] #[], .slice (some ⟨g, 0, none⟩) n n, .int .u8 x.more]) (fun _ => ⟨g, n, hBw, by rw [hn], hcell⟩) hnew
  refine st_skip (w' := w') rfl (by
    have h8 := hf6.t8
    simp only [execOp, Act.eval, g6, h8, Sem.run_bind, hrun, Result.andThen]; rfl) ?_
  rw [put_none]
  exact hK _ _ hf6 hi'

/-- Such a line whose kinds are two lists joined. -/
theorem entry_app (x : Verb) (t1 t2 t3 t4 t5 t6 t7 t8 : Nat) (n : Nat) (parts : Array (Nat × Operand)) {y0 y1 y2 y3 y4 y5 y6 y7 y8 : TypeId} {p0 p1 p2 p3 p4 p5 p6 p7 p8 : String} {e0 e1 e2 e3 e4 e5 e6 e7 e8 : Array Edge} {ats : Array TypeId}
    (ht : 8 < t1 ∧ t1 < t2 ∧ t2 < t3 ∧ t3 < t4 ∧ t4 < t5 ∧ t5 < t6 ∧ t6 < t7 ∧ t7 < t8 ∧ t8 < 179) (hn : x.wants.length = n) (hn9 : n ≤ 9)
    (hbs : ∀ (a : Act) (w : World), (Instr.buildSlice 66 n (parts.map fun (i, x) => (i, a.eval x))).run Tryz.prog w = .ok (.slice (some ⟨w.heap.size, 0, none⟩) n n) (w.alloc (.cells (x.wants.map (Value.int .u8)).toArray 67)))
    (hnew : (L.map (·.1.name)).findIdx? (· == x.name) = none)
    (hf : FrOk s (.map (some M)) (.slice (some ⟨kb, 0, none⟩) 7 7) a) (hi : CmdInv B M kb s L W w)
    (hK : ∀ a' w', FrOk s (.map (some M)) (.slice (some ⟨kb, 0, none⟩) 7 7) a' → CmdInv B M kb s (L ++ [(x, false)]) W w' → wpList Tryz.prog ops Q rest a' w') :
    wpList Tryz.prog ops Q
      (⟨some t1, .move (.tmp 0), y0, p0, e0, none⟩ :: ⟨some t2, .makeFunc (.func x.fid) #[.tmp t1] #[], y1, p1, e1, none⟩ :: ⟨some t3, .move (.tmp 3), y2, p2, e2, none⟩ ::
       ⟨some t4, .buildSlice 66 n parts, y3, p3, e3, none⟩ :: ⟨some t5, .call { callee := .value (.tmp t3), args := #[.tmp t4], argTypes := ats }, y4, p4, e4, none⟩ ::
       ⟨some t6, .move (.tmp 4), y5, p5, e5, none⟩ :: ⟨some t7, .call { callee := .builtin .append, args := #[.tmp t5, .tmp t6], argTypes := #[66, 66] }, y6, p6, e6, none⟩ ::
       ⟨some t8, .build 69 #[(0, .tmp t2), (1, .tmp t7), (2, .const (.int .u8 x.more))], y7, p7, e7, none⟩ ::
       ⟨none, .insert 71 (.tmp 8) (.const (.string x.name)) (.tmp t8), y8, p8, e8, none⟩ :: rest) a w := by
  obtain ⟨k1, k2, k3, k4, k5, k6, k7, k8, k9⟩ := ht
  -- move
  refine st_value (v := s) (w' := w) rfl (by simp only [execOp, Act.eval, hf.t0]; rfl) ?_
  have hf1 := hf.put t1 s k1
  have g1 := hf.got t1 s (by omega)
  generalize a.put (some t1) s = a1 at *
  -- makeFunc
  refine st_value (v := .func (.func x.fid) #[s] #[]) (w' := w) rfl (by simp [execOp, Act.eval, g1, makeFunc_run, Result.andThen]) ?_
  have hf2 := hf1.put t2 (.func (.func x.fid) #[s] #[]) (by omega)
  have g2 := hf1.got t2 (.func (.func x.fid) #[s] #[]) (by omega)
  generalize a1.put (some t2) (.func (.func x.fid) #[s] #[]) = a2 at *
  -- move
  refine st_value (v := .func (.func 40) #[] #[]) (w' := w) rfl (by simp only [execOp, Act.eval, hf2.t3]; rfl) ?_
  have hf3 := hf2.put t3 (.func (.func 40) #[] #[]) (by omega)
  have g3 := hf2.got t3 (.func (.func 40) #[] #[]) (by omega)
  have g32 : (a2.put (some t3) (.func (.func 40) #[] #[])).tmps.getD t2 undef = _ := (put_other a2 t3 t2 _ (by omega)).trans g2
  generalize a2.put (some t3) (.func (.func 40) #[] #[]) = a3 at *
  -- buildSlice
  refine st_value (v := .slice (some ⟨w.heap.size, 0, none⟩) n n) (w' := w.alloc (.cells (x.wants.map (Value.int .u8)).toArray 67)) rfl (by simp only [execOp, Sem.run_bind, hbs a3 w, Result.andThen]; rfl) ?_
  have hb4 : Below w.heap.size w (w.alloc (.cells (x.wants.map (Value.int .u8)).toArray 67)) := (Below.refl _ _).alloc (Nat.le_refl _) _
  have hcell : (w.alloc (.cells (x.wants.map (Value.int .u8)).toArray 67)).heap[w.heap.size]? = some (.cells (x.wants.map (Value.int .u8)).toArray 67) := by show (w.heap.push _)[w.heap.size]? = _; simp
  have hkb : kb < w.heap.size := (Array.getElem?_eq_some_iff.1 hi.kept.2).1
  have hk4 : (w.alloc (.cells (x.wants.map (Value.int .u8)).toArray 67)).heap[kb]? = some (.cells keptCells 67) := alloc_old hi.kept.2
  have hs4 : w.heap.size < (w.alloc (.cells (x.wants.map (Value.int .u8)).toArray 67)).heap.size := by simp
  generalize w.alloc (.cells (x.wants.map (Value.int .u8)).toArray 67) = w4 at *
  generalize hgs : w.heap.size = g at *
  have hf4 := hf3.put t4 (.slice (some ⟨g, 0, none⟩) n n) (by omega)
  have g4 := hf3.got t4 (.slice (some ⟨g, 0, none⟩) n n) (by omega)
  have g42 : (a3.put (some t4) (.slice (some ⟨g, 0, none⟩) n n)).tmps.getD t2 undef = _ := (put_other a3 t4 t2 _ (by omega)).trans g32
  have g43 : (a3.put (some t4) (.slice (some ⟨g, 0, none⟩) n n)).tmps.getD t3 undef = _ := (put_other a3 t4 t3 _ (by omega)).trans g3
  generalize a3.put (some t4) (.slice (some ⟨g, 0, none⟩) n n) = a4 at *
  -- call
  refine st_call (f := 40) (args := #[.slice (some ⟨g, 0, none⟩) n n]) (w' := w4) rfl (by simp only [execOp, Act.eval, resolve, Deferred.ofValue, invoke, List.map_toArray, List.map_cons, List.map_nil, g43, g4, Sem.run_bind, Result.andThen]; exact Tryz.call40 _ _) (kinds_any _ _) ?_
  rintro e w5 ⟨rfl, rfl⟩
  refine ⟨_, rfl, ?_⟩
  have hf5 := hf4.put t5 (.slice (some ⟨g, 0, none⟩) n n) (by omega)
  have g5 := hf4.got t5 (.slice (some ⟨g, 0, none⟩) n n) (by omega)
  have g52 : (a4.put (some t5) (.slice (some ⟨g, 0, none⟩) n n)).tmps.getD t2 undef = _ := (put_other a4 t5 t2 _ (by omega)).trans g42
  generalize a4.put (some t5) (.slice (some ⟨g, 0, none⟩) n n) = a5 at *
  -- move
  refine st_value (v := .slice (some ⟨kb, 0, none⟩) 7 7) (w' := w4) rfl (by simp only [execOp, Act.eval, hf5.t4]; rfl) ?_
  have hf6 := hf5.put t6 (.slice (some ⟨kb, 0, none⟩) 7 7) (by omega)
  have g6 := hf5.got t6 (.slice (some ⟨kb, 0, none⟩) 7 7) (by omega)
  have g62 : (a5.put (some t6) (.slice (some ⟨kb, 0, none⟩) 7 7)).tmps.getD t2 undef = _ := (put_other a5 t6 t2 _ (by omega)).trans g52
  have g65 : (a5.put (some t6) (.slice (some ⟨kb, 0, none⟩) 7 7)).tmps.getD t5 undef = _ := (put_other a5 t6 t5 _ (by omega)).trans g5
  generalize a5.put (some t6) (.slice (some ⟨kb, 0, none⟩) 7 7) = a6 at *
  -- append
  have hown : w4.ownsRow g 67 1 (.slice (some ⟨g, 0, none⟩) n n) n (x.wants.map (Value.int .u8)) :=
    ⟨by simp [hn], .inr ⟨g, n, (x.wants.map (Value.int .u8)).toArray, rfl, Nat.le_refl _, hcell, Nat.le_refl _, by simp [maxLen]; omega, by simp [hn], by rw [List.take_of_length_le (by simp [hn])]⟩⟩
  obtain ⟨v7, w7, hr7, hown7, hg7, hnil⟩ := run_append_own (P := Tryz.prog) w4 g 66 y6 67 Tryz.t67 (.int .u8 0) 1 1 Tryz.underlying66 info67 rfl rfl rfl rfl (by decide) _ n _ hown ⟨kb, 0, none⟩ 7 7 keptCells.toList (by decide)
    (fun j u hu => by
      have hj : j < 7 := by have := (List.getElem?_eq_some_iff.1 hu).1; simpa [keptCells] using this
      rw [Addr.add_lit, Nat.zero_add]
      simp only [World.cell?, hk4, Option.isSome_none, Bool.false_eq_true, if_false]
      rw [← hu]; simp)
    (by decide) (by simp [maxLen]; omega) (by omega) (Nat.le_of_lt hs4)
  obtain ⟨g', cap', cur, rfl, -⟩ : ∃ g cap cur, v7 = .slice (some ⟨g, 0, none⟩) (n + 7) cap ∧ (cur : Nat) = 0 := by
    rcases hown7.2 with ⟨_, h0⟩ | ⟨g, cap, cur, hv, _⟩
    · omega
    · exact ⟨g, cap, 0, hv, rfl⟩
  refine st_value (v := .slice (some ⟨g', 0, none⟩) (n + 7) cap') (w' := w7) rfl (by
    simp only [BigFrame.execOp_builtin, BigFrame.builtin_append, List.map_toArray, List.map_cons, List.map_nil, Act.eval, g65, g6, Sem.run_bind, hr7, Result.andThen]; rfl) ?_
  have hf7 := hf6.put t7 (.slice (some ⟨g', 0, none⟩) (n + 7) cap') (by omega)
  have g7 := hf6.got t7 (.slice (some ⟨g', 0, none⟩) (n + 7) cap') (by omega)
  have g72 : (a6.put (some t7) (.slice (some ⟨g', 0, none⟩) (n + 7) cap')).tmps.getD t2 undef = _ := (put_other a6 t7 t2 _ (by omega)).trans g62
  generalize a6.put (some t7) (.slice (some ⟨g', 0, none⟩) (n + 7) cap') = a7 at *
  have hi7 : CmdInv B M kb s L W w7 := hi.later (by
    rw [hgs]; exact hb4.grown hg7 (Nat.le_of_lt hs4) (fun k hk => by simp [Value.ownBlock] at hk; omega))
  -- build
  refine st_value (v := .agg #[.func (.func x.fid) #[s] #[], .slice (some ⟨g', 0, none⟩) (n + 7) cap', .int .u8 x.more]) (w' := w7) rfl (by
    have hb := build69 x.fid s ⟨g', 0, none⟩ (n + 7) cap' x.more w7
    simp only [execOp, Act.eval, List.map_toArray, List.map_cons, List.map_nil, g72, g7, Sem.run_bind, hb, Result.andThen]; rfl) ?_
  have hf8 := hf7.put t8 (.agg #[.func (.func x.fid) #[s] #[], .slice (some ⟨g', 0, none⟩) (n + 7) cap', .int .u8 x.more]) (by omega)
  have g8 := hf7.got t8 (.agg #[.func (.func x.fid) #[s] #[], .slice (some ⟨g', 0, none⟩) (n + 7) cap', .int .u8 x.more]) (by omega)
  generalize a7.put (some t8) (.agg #[.func (.func x.fid) #[s] #[], .slice (some ⟨g', 0, none⟩) (n + 7) cap', .int .u8 x.more]) = a8 at *
  -- insert
  obtain ⟨w', hrun, hi'⟩ := hi7.insert x false (.agg #[.func (.func x.fid) #[s] #[], .slice (some ⟨g', 0, none⟩) (n + 7) cap', .int .u8 x.more]) (fun h => by cases h) hnew
  refine st_skip (w' := w') rfl (by
    have h8 := hf8.t8
    simp only [execOp, Act.eval, g8, h8, Sem.run_bind, hrun, Result.andThen]; rfl) ?_
  rw [put_none]
  exact hK _ _ hf8 hi'

/-- The last line: no kinds. -/
theorem entry_nil (x : Verb) (t1 t2 t3 : Nat) {y0 y1 y2 y3 : TypeId} {p0 p1 p2 p3 : String} {e0 e1 e2 e3 : Array Edge}
    (ht : 8 < t1 ∧ t1 < t2 ∧ t2 < t3 ∧ t3 < 179)
    (hnew : (L.map (·.1.name)).findIdx? (· == x.name) = none)
    (hf : FrOk s (.map (some M)) kp a) (hi : CmdInv B M kb s L W w)
    (hK : ∀ a' w', FrOk s (.map (some M)) kp a' → CmdInv B M kb s (L ++ [(x, false)]) W w' → wpList Tryz.prog ops Q rest a' w') :
    wpList Tryz.prog ops Q
      (⟨some t1, .move (.tmp 0), y0, p0, e0, none⟩ :: ⟨some t2, .makeFunc (.func x.fid) #[.tmp t1] #[], y1, p1, e1, none⟩ ::
       ⟨some t3, .build 69 #[(0, .tmp t2), (1, .const (.slice none 0 0)), (2, .const (.int .u8 x.more))], y2, p2, e2, none⟩ ::
       ⟨none, .insert 71 (.tmp 8) (.const (.string x.name)) (.tmp t3), y3, p3, e3, none⟩ :: rest) a w := by
  obtain ⟨k1, k2, k3, k4⟩ := ht
  refine st_value (v := s) (w' := w) rfl (by simp only [execOp, Act.eval, hf.t0]; rfl) ?_
  have hf1 := hf.put t1 s k1
  have g1 := hf.got t1 s (by omega)
  generalize a.put (some t1) s = a1 at *
  refine st_value (v := .func (.func x.fid) #[s] #[]) (w' := w) rfl (by simp [execOp, Act.eval, g1, makeFunc_run, Result.andThen]) ?_
  have hf2 := hf1.put t2 (.func (.func x.fid) #[s] #[]) (by omega)
  have g2 := hf1.got t2 (.func (.func x.fid) #[s] #[]) (by omega)
  generalize a1.put (some t2) (.func (.func x.fid) #[s] #[]) = a2 at *
  refine st_value (v := .agg #[.func (.func x.fid) #[s] #[], .slice none 0 0, .int .u8 x.more]) (w' := w) rfl (by
    have hb := build69n x.fid s x.more w
    simp only [execOp, Act.eval, List.map_toArray, List.map_cons, List.map_nil, g2, Sem.run_bind, hb, Result.andThen]; rfl) ?_
  have hf3 := hf2.put t3 (.agg #[.func (.func x.fid) #[s] #[], .slice none 0 0, .int .u8 x.more]) (by omega)
  have g3 := hf2.got t3 (.agg #[.func (.func x.fid) #[s] #[], .slice none 0 0, .int .u8 x.more]) (by omega)
  generalize a2.put (some t3) (.agg #[.func (.func x.fid) #[s] #[], .slice none 0 0, .int .u8 x.more]) = a3 at *
  obtain ⟨w', hrun, hi'⟩ := hi.insert x false (.agg #[.func (.func x.fid) #[s] #[], .slice none 0 0, .int .u8 x.more]) (fun h => by cases h) hnew
  refine st_skip (w' := w') rfl (by
    have h8 := hf3.t8
    simp only [execOp, Act.eval, g3, h8, Sem.run_bind, hrun, Result.andThen]; rfl) ?_
  rw [put_none]
  exact hK _ _ hf3 hi'
end

theorem enter40 (args : Array Value) (w : World) : (callFunc 40 args).run Tryz.prog w = .ok (.enter 40 args) w := Tryz.call40 args w

end Go.Proofs.Sh
