/- Slices of one's own of records of numbers. -/
import Derived.Test.YtdbheiibkpendaaDoorGwN
namespace Go.Gw
open Go.RowKit Go.MapKept
variable {P : Program} {T : TypeId → Option TD} {B : Nat → Prop} {N : Nat} {w0 : W0} {γ : Nat → Value} {σ σ' : Stt} {a : Act} {w : World}
theorem JbD : ∀ {ls : List Leaf}, ls.all JjE = true → Jr γ ls = (ls.map Jkv).map (.int .i64)
 | [], _ => rfl
 | x :: r, h => by
  simp only [List.all_cons, Bool.and_eq_true] at h
  rw [JS, JbD h.2]
  have h1 := h.1
  unfold JjE at h1
  split at h1
  ·rfl
  ·cases h1
theorem JfH (I : Inv B N w0 γ σ a w) {u : SV} {r : TypeId × Nat × List Int} (h : Jcp σ u = some r) : ∃ κ, u = .v (.one (.slc κ)) ∧ σ (.h κ) = some (.e (.owni r.1 r.2.1 r.2.2)) ∧ w.ownsRow 0 r.1 r.2.1 (γ κ) (r.2.2.length / r.2.1) (r.2.2.map (.int .i64)) ∧ ∀ b, JA (γ κ) = some b → B b := by
 unfold Jcp at h
 split at h
 ·split at h
  ·rename_i hk; cases h; exact ⟨_, rfl, I.key hk⟩
  ·cases h
 ·cases h
theorem Jj2 (I : Inv B N w0 γ σ a w) {sz : Nat} {u : SV} {n : Nat} (h : Jkw σ sz u = some n) : ∃ κ, u = .v (.one (.slc κ)) ∧ ∃ ad cap, γ κ = .slice ad n cap := by
 unfold Jkw at h
 split at h
 ·split at h
  ·rename_i e sz' l hk
   cases hs : Nat.beq sz sz' with
   | false => simp [hs] at h
   | true =>
    obtain rfl := Nat.eq_of_beq_eq_true hs
    simp only [hs, cond_true, Option.some.injEq] at h
    subst h
    refine ⟨_, rfl, ?_⟩
    rcases (I.key hk).2.1.2 with ⟨q, q0⟩ | ⟨g, cap, cur, q, _⟩
    ·exact ⟨none, 0, by rw [q, q0]⟩
    ·exact ⟨_, _, q⟩
  ·rename_i hk; cases h; exact ⟨_, rfl, (I.key hk).2⟩
  ·cases h
 ·cases h
theorem JhL (hT : TOk P T) (I : Inv B N w0 γ σ a w) {ns : List Nat} (hf : ∀ κ ∈ ns, NoKey κ σ) {o : Oper} {eff : Eff} (h : oiS T σ ns o.op = some eff) (hn : eff.need) : RunOk P (execOp a.eval o) w (Post B N w0 σ a eff) := by
 obtain ⟨dst, op, ty, pos, after, guard⟩ := o
 simp only at h
 cases op with
 | buildSlice t n ps =>
  match n with
  | 0 => simp [oiS] at h
  | n + 2 => simp [oiS] at h
  | 1 =>
   simp only [oiS] at h
   split at h
   ·rename_i e sz x κ' hd hps
    split at h
    ·rename_i ls hx
     cases hck : (Nat.beq ls.length sz && ls.all JjE) with
     | false => simp [hck] at h
     | true =>
      simp only [hck, cond_true, Option.some.injEq] at h
      subst h
      simp only [Bool.and_eq_true] at hck
      have hsz := Nat.eq_of_beq_eq_true hck.1
      have hcl := JbD (γ := γ) hck.2
      obtain ⟨t1, i, z, hi, hisz, hz, hzs, _, hp, hp16⟩ := Wf (hT t _ hd)
      have ex : a.eval x = .agg (Jr γ ls).toArray := (I.eval hx).1
      have hl : (Jr γ ls).length = sz := by rw [hcl]; simpa using hsz
      have eps : ps = #[(0, x)] := by rw [← Array.toArray_toList (xs := ps), hps]
      subst eps
      have hr : (Instr.buildSlice t 1 ((#[(0, x)] : Array (Nat × Operand)).map fun p => (p.1, a.eval p.2))).run P w = .ok (.slice (some ⟨w.heap.size, 0, none⟩) 1 1) (w.alloc (.cells (Jr γ ls).toArray e)) := by
       have h24 : ¬ (1 * sz > 2 ^ 24) := by omega
       have hz' : ∀ w, (zeroValue e).run P w = .ok z w := fun w => by simp [zeroValue, typeInfo, hi, hz]
       have hs' : ∀ w, (sizeOf e).run P w = .ok sz w := fun w => by simp [sizeOf, typeInfo, hi, hisz]
       have hf1 : Instr.fill (fun i => some (i * sz, sz)) ((Array.range (1 * sz)).map (z.cells[· % z.cells.size]!)) [(0, a.eval x)] = some (Jr γ ls).toArray := by
        have := Xz (fun i => some (i * sz, sz)) (i := 0) (off := 0) (sz := sz) (by simp) (a.eval x) [] ((Array.range (1 * sz)).map (z.cells[· % z.cells.size]!)).toList [] [] rfl (by simp) (by rw [ex]; simpa [Value.cells] using hl)
        simp only [List.append_nil, List.nil_append, Array.toArray_toList] at this
        rw [this]
        simp [Instr.fill, ex, Value.cells]
       unfold Instr.buildSlice
       simp only [Sem.run_bind, run_underlying t1, Result.andThen_ok, hs', if_neg h24, if_neg (show ¬ 1 * sz = 0 by omega), hz', Sem.run_pure, List.map_toArray, List.map_cons, List.map_nil, hf1]
       simp [newRow]
      have hlen1 : (ls.map Jkv).length / sz = 1 := by rw [List.length_map, hsz]; exact Nat.div_self hp
      refine Jl hr ⟨fun x => if x = κ' then .slice (some ⟨w.heap.size, 0, none⟩) 1 1 else γ x, by simp [SV.den, V1.den, Leaf.cells], ⟨trivial, trivial⟩, I.fresh (hf κ' (by simp)) rfl ⟨rfl, rfl, rfl, by simp, fun b hb _ => heap_alloc_old w _ b hb⟩ ?_ ?_⟩
      ·simp only [Ent.at, if_pos]
       refine ⟨?_, fun b hb => ?_⟩
       ·rw [hlen1, ← hcl]
        exact World.ownsRow_lit (base := 0) (e := e) (size := sz) w (Jr γ ls).toArray 1 (Nat.zero_le _) (by simp [maxLen]) (by simpa using hl)
       ·simp only [JA, Option.some.injEq] at hb; omega
      ·intro b hb
       simp only [Ent.foot, if_pos, JA, Option.some.injEq] at hb
       omega
    ·cases h
   ·cases h
 | call c =>
  obtain ⟨callee, args, ts⟩ := c
  cases callee with
  | builtin b => cases b with
   | len =>
    simp only [oiS] at h
    split at h
    ·rename_i e sz u hd hx
     cases hr : Jkw σ sz u with
     | none => simp [hr] at h
     | some n =>
      simp only [hr, Option.bind_some, Ju, Option.some.injEq] at h
      subst h
      obtain ⟨κ, rfl, ad, cap, q1⟩ := Jj2 I hr
      cases ht0 : ts[0]? with
      | none => simp [ht0] at hd
      | some t =>
      simp only [ht0, Option.bind_some] at hd
      cases ha0 : args[0]? with
      | none => simp [ha0] at hx
      | some x =>
      simp only [ha0, Option.bind_some] at hx
      obtain ⟨t1, _⟩ := Wf (hT t _ hd)
      have e1 : a.eval x = .slice ad n cap := (I.eval hx).1.trans q1
      have hrun : (Builtin.len_ ts ty (args.map a.eval)).run P w = .ok (.int .i64 (n : Int)) w := by
       simp [Builtin.len_, ht0, ha0, run_underlying t1, goInt, e1]
      have hex : execOp a.eval ⟨dst, .call ⟨.builtin .len, args, ts⟩, ty, pos, after, guard⟩ = (do pure (.value (← Builtin.len_ ts ty (args.map a.eval)))) := rfl
      rw [hex]
      exact Jl hrun ⟨γ, rfl, ⟨trivial, trivial⟩, I⟩
    ·cases h
   | append =>
    simp only [oiS] at h
    split at h
    ·rename_i x y t t' κ' ha0 ht0
     cases htt : Nat.beq t t' with
     | false => simp [htt] at h
     | true =>
      obtain rfl := Nat.eq_of_beq_eq_true htt
      simp only [htt, cond_true] at h
      have ea : args = #[x, y] := by rw [← Array.toArray_toList (xs := args), ha0]
      have et : ts = #[t, t] := by rw [← Array.toArray_toList (xs := ts), ht0]
      subst ea; subst et
      split at h
      ·rename_i e sz κ r2 hd hx hy
       cases hr : Jcp σ (.v (.one (.slc κ))) with
       | none => simp [hr] at h
       | some r =>
        simp only [hr, Option.bind_some] at h
        cases hck : (Nat.beq e r.1 && Nat.beq sz r.2.1 && Nat.beq sz r2.2.1) with
        | false => simp [hck] at h
        | true =>
         simp only [hck, cond_true, Option.some.injEq] at h
         subst h
         simp only [Bool.and_eq_true] at hck
         have c1 := Nat.eq_of_beq_eq_true hck.1.1
         have c2 := Nat.eq_of_beq_eq_true hck.1.2
         have c3 := Nat.eq_of_beq_eq_true hck.2
         have hlen : r.2.2.length / sz + r2.2.2.length / sz ≤ QI := hn
         obtain ⟨κ0, hκ0, hk, ho, hB⟩ := JfH I hr
         cases hκ0
         cases hyv : Jg σ y with
         | none => simp [hyv] at hy
         | some uy =>
         simp only [hyv, Option.bind_some] at hy
         obtain ⟨κ2, rfl, _, ho2, _⟩ := JfH I hy
         have ey : a.eval y = γ κ2 := (I.eval hyv).1
         have ex : a.eval x = γ κ := (I.eval hx).1
         rw [← c1, ← c2] at ho
         rw [← c3] at ho2
         obtain ⟨t1, i, z, hi, hisz, hz, hzs, _, hp, hp16⟩ := Wf (hT t _ hd)
         have hl1 : r.2.2.length = r.2.2.length / sz * sz := by simpa using ho.1
         have hl2 : r2.2.2.length = r2.2.2.length / sz * sz := by simpa using ho2.1
         have hsum : (r.2.2 ++ r2.2.2).length / sz = r.2.2.length / sz + r2.2.2.length / sz := by
          rw [List.length_append, hl1, hl2, ← Nat.add_mul, Nat.mul_div_cancel _ hp, Nat.mul_div_cancel _ hp, Nat.mul_div_cancel _ hp]
         obtain ⟨v', w', r1, r2', r3, r4, r5⟩ := Qs (P := P) (t := t) (ty := ty) (hT t _ hd) rfl ho (JlD ho2) (by simpa using hl2) (fun u hu => by obtain ⟨b, _, rfl⟩ := List.mem_map.1 hu; rfl) hlen
         have obk : (γ κ).ownBlock = JA (γ κ) := (Qz ho).2
         have hex : execOp a.eval ⟨dst, .call ⟨.builtin .append, #[x, y], #[t, t]⟩, ty, pos, after, guard⟩ = (do pure (.value (← Builtin.append_ #[t, t] ty (#[x, y].map a.eval)))) := rfl
         rw [hex]
         have r5' : ∀ b, JA v' = some b → w.heap.size ≤ b ∨ JA (γ κ) = some b := fun b hb => (r5 b hb).symm
         refine Jl (v := v') (w' := w') (by simpa [ex, ey] using r1) ⟨fun x => if x = κ' then v' else γ x, by simp [SV.den, V1.den, Leaf.cells], ⟨trivial, trivial⟩, Xg I hk rfl (hf κ' (by simp)) r2' ?_ ?_ fun b hb => ?_⟩
         ·exact ⟨r4.os, r4.tape, r4.output, r4.size, fun b hb hn => r4.block b hb fun e => hn (.inr (by rw [← obk]; exact e.symm))⟩
         ·simp only [Ent.at, if_pos]
          refine ⟨?_, r5'⟩
          rw [hsum, List.map_append]
          exact r3
         ·simp only [Ent.foot, if_pos] at hb
          exact r5' b hb
      ·cases h
    ·cases h
   | _ => simp [oiS] at h
  | _ => simp [oiS] at h
 | _ => simp [oiS] at h
theorem Jb6 {u : SV} (h : ∀ κ' ∈ u.keys, Jh σ' κ' = Jh σ κ') : Jcp σ' u = Jcp σ u := by
 unfold Jcp
 split
 ·rename_i κ'; rw [h κ' (by simp [SV.keys, V1.keys, V1.keys.lk])]
 ·rfl
theorem Jf6 {sz : Nat} {u : SV} (h : ∀ κ' ∈ u.keys, Jh σ' κ' = Jh σ κ') : Jkw σ' sz u = Jkw σ sz u := by
 unfold Jkw
 split
 ·rename_i κ'; rw [h κ' (by simp [SV.keys, V1.keys, V1.keys.lk])]
 ·rfl
theorem Jhc {ns : List Nat} {op : Op} (hs : ∀ x ∈ op.operands, Jg σ' x = Jg σ x)
  (hk : ∀ x ∈ op.operands, ∀ v, Jg σ x = some v → ∀ κ ∈ v.keys, Jh σ' κ = Jh σ κ) : oiS T σ' ns op = oiS T σ ns op := by
 cases op with
 | buildSlice t n ps =>
  match n with
  | 0 => rfl
  | n + 2 => rfl
  | 1 =>
   simp only [oiS]
   split
   ·rename_i x κ' _ hps
    have hx : x ∈ (Op.buildSlice t 1 ps).operands := by
     have : ps = #[(0, x)] := by rw [← Array.toArray_toList (xs := ps), hps]
     subst this
     simp [Op.operands]
    rw [hs x hx]
   ·rfl
 | call c =>
  obtain ⟨callee, args, ts⟩ := c
  cases callee with
  | builtin b => cases b with
   | len =>
    have e : (args[0]?).bind (Jg σ') = (args[0]?).bind (Jg σ) := by
     cases hx : args[0]? with
     | none => rfl
     | some x => exact hs x (by simp only [Op.operands, Call.operands, Array.mem_append]; exact .inr (Array.mem_of_getElem? hx))
    simp only [oiS]
    rw [e]
    split
    ·rename_i u _ hx
     cases hx0 : args[0]? with
     | none => simp [hx0] at hx
     | some x =>
      simp only [hx0, Option.bind_some] at hx
      rw [Jf6 (hk x (by simp only [Op.operands, Call.operands, Array.mem_append]; exact .inr (Array.mem_of_getElem? hx0)) u hx)]
    ·rfl
   | append =>
    simp only [oiS]
    split
    ·rename_i x y t t' κ' ha _
     have hx : x ∈ (Op.call ⟨.builtin .append, args, ts⟩).operands := by simp only [Op.operands, Call.operands, Array.mem_append]; exact .inr (by rw [← Array.mem_toList_iff, ha]; simp)
     have hy : y ∈ (Op.call ⟨.builtin .append, args, ts⟩).operands := by simp only [Op.operands, Call.operands, Array.mem_append]; exact .inr (by rw [← Array.mem_toList_iff, ha]; simp)
     rw [hs x hx, hs y hy]
     have ek : (Jg σ y).bind (Jcp σ') = (Jg σ y).bind (Jcp σ) := by
      cases hv : Jg σ y with
      | none => rfl
      | some u => exact Jb6 (hk y hy u hv)
     rw [ek]
     cases Nat.beq t t' with
     | false => rfl
     | true =>
      simp only [cond_true]
      split
      ·rename_i hu _
       rw [Jb6 (hk x hx _ hu)]
      ·rfl
    ·rfl
   | _ => rfl
  | _ => rfl
 | _ => rfl
end Go.Gw
