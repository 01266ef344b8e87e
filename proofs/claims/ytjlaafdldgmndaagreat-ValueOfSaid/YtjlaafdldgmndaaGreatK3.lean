/- Lemmas: an abstract machine over the loaded program, proved sound against the model once; what the program's functions compute. -/
import Derived.Test.YtjlaafdldgmndaaGreatK0
import Derived.KernelRfl
import Derived.Test.YtjlaafdldgmndaaGreatProg
import Derived.Shelf.Slices.Delete
import Derived.WalkKit
import Derived.Lib.ReflectliteSwap
import Derived.Test.YtjlaafdldgmndaaGreatK1
import Derived.Shelf.SlSortCmp.NoneTotal
import Derived.Shelf.SlGeneric
set_option linter.all false
/- The functions of the program, as the abstract machine takes them: printed by gen2.py. -/
namespace Go.AM
set_option linter.unusedVariables false
abbrev I.o (d : Nat) (e : O) : I := ⟨some d, none, e, [], 0⟩
abbrev I.s (e : O) : I := ⟨none, none, e, [], 0⟩
abbrev I.c (n : Nat) (b : Bool) (d : Nat) (e : O) : I := ⟨some d, some (n, b), e, [], 0⟩
abbrev I.z (d : Nat) (e : O) (z : Nat) : I := ⟨some d, none, e, [], z⟩
abbrev I.u (d : Nat) (e : O) (un : List Nat) (z : Nat) : I := ⟨some d, none, e, un, z⟩
def t_kfifo_Queue : TypeId := 241
def t_multi_Multi : TypeId := 237
def t_net_Net : TypeId := 169
def t_pile_Item : TypeId := 53
def t_pile_items_u : TypeId := 284
def t_tally_Tally : TypeId := 245

def n_c_law12_ValueOf : FuncId := 3
def n_c_law12_awake : FuncId := 9
def n_c_law12_Kind : FuncId := 10
def n_c_law12_Drive : FuncId := 11
def n_c_law12_ValueOf_1 : FuncId := 12
def n_value_Of : FuncId := 13
def n_c_law12_Is : FuncId := 14
def n_c_ref12_Of : FuncId := 15
def n_cell_New : FuncId := 16
def n_value_Value_Same : FuncId := 18
def n_value_Value_After : FuncId := 19
def n_pile_Sorted : FuncId := 32
def n_c_law06_Run_Same : FuncId := 41
def n_c_law06_Own : FuncId := 44
def n_pile_Item_Cmp : FuncId := 46
def n_cell_Memory_Clock : FuncId := 47
def n_c_law04_Are : FuncId := 57
def n_c_law12_Machine : FuncId := 59
def n_c_law12_Drive_1 : FuncId := 60
def n_c_ref12_Step : FuncId := 61
def n_c_law06_Drive : FuncId := 62
def n_op_Legal : FuncId := 63
def n_value_bag : FuncId := 64
def n_value_line : FuncId := 65
def n_value_sum : FuncId := 66
def n_net_New : FuncId := 67
def n_net_Net_Out : FuncId := 68
def n_c_ref08_All : FuncId := 69
def n_c_ref09_All : FuncId := 70
def n_c_ref07_Sum : FuncId := 71
def n_c_ref11_Total : FuncId := 72
def n_c_ref10_Count : FuncId := 73
def n_slices_EqualFunc_pile_Item_pile_Item_pile_Item_pile_Item_1 : FuncId := 74
def n_value_Value_Same_1 : FuncId := 75
def n_op_Op_Check : FuncId := 76
def n_pile_Item_Canon : FuncId := 78
def n_value_Value_without : FuncId := 79
def n_c_ref04_Cmp : FuncId := 80
def n_c_law04_Own : FuncId := 86
def n_pile_New : FuncId := 93
def n_pile_Pile_All : FuncId := 94
def n_cell_Memory_Len : FuncId := 102
def n_c_ref05_Len : FuncId := 103
def n_c_ref05_Read : FuncId := 104
def n_cell_Memory_Read : FuncId := 105
def n_c_law05_Is : FuncId := 106
def n_c_ref06_Of : FuncId := 107
def n_c_ref06_Into : FuncId := 108
def n_op_Into : FuncId := 110
def n_real_Cmp : FuncId := 111
def n_c_law04_Is : FuncId := 118
def n_multi_New : FuncId := 119
def n_kfifo_New : FuncId := 120
def n_tally_New : FuncId := 121
def n_c_ref08_Step : FuncId := 122
def n_c_ref09_Step : FuncId := 123
def n_c_ref07_Step : FuncId := 124
def n_c_ref11_Step : FuncId := 125
def n_c_law06_Told : FuncId := 126
def n_c_law06_IsAnswer : FuncId := 127
def n_value_line_1 : FuncId := 129
def n_wire_Make : FuncId := 130
def n_c_ref04_With : FuncId := 131
def n_c_ref10_Merge : FuncId := 132
def n_op_Of : FuncId := 133
def n_real_Canon : FuncId := 134
def n_slices_IndexFunc_pile_Item_pile_Item : FuncId := 135
def n_value_Value_without_1 : FuncId := 136
def n_c_ref03_Cmp : FuncId := 138
def n_c_ref03_Bits : FuncId := 140
def n_c_law03_F : FuncId := 147
def n_container_heap_Init : FuncId := 152
def n_pile_Pile_Take : FuncId := 153
def n_cell_Value_Clone : FuncId := 156
def n_real_Key : FuncId := 157
def n_c_ref08_insert : FuncId := 164
def n_c_ref05_Write : FuncId := 165
def n_c_ref09_enq : FuncId := 166
def n_c_ref09_look : FuncId := 167
def n_c_ref09_slot : FuncId := 168
def n_c_ref09_again : FuncId := 169
def n_c_ref11_more : FuncId := 170
def n_c_ref04_Make : FuncId := 171
def n_wire_Plan_count : FuncId := 174
def n_c_ref10_pick : FuncId := 175
def n_c_ref03_Key : FuncId := 177
def n_cell_Memory_Write : FuncId := 178
def n_kfifo_Queue_Slot : FuncId := 179
def n_container_heap_down : FuncId := 181
def n_container_heap_Pop : FuncId := 182
def n_c_ref09_Slot : FuncId := 186
def n_wire_Plan_merge : FuncId := 197
def n_slices_xorshift_Next : FuncId := 202
def n_wire_every : FuncId := 205
def n_net_Net_Step : FuncId := 226
def n_net_Net_gate : FuncId := 227
def n_net_bump : FuncId := 228
def n_net_Net_place : FuncId := 229
def n_multi_Multi_Step : FuncId := 231
def n_multi_Multi_insert : FuncId := 232
def n_multi_Multi_delete : FuncId := 233
def n_pile_Pile_Put : FuncId := 234
def n_multi_better : FuncId := 235
def n_container_heap_Push : FuncId := 236
def n_container_heap_up : FuncId := 237
def n_kfifo_Queue_Fits : FuncId := 238
def n_kfifo_Queue_Step : FuncId := 239
def n_kfifo_Queue_enq : FuncId := 240
def n_kfifo_Queue_deq : FuncId := 241
def n_kfifo_Queue_begin : FuncId := 242
def n_kfifo_Queue_slot : FuncId := 243
def n_kfifo_Queue_look : FuncId := 244
def n_tally_Tally_Step : FuncId := 245
def n_tally_Tally_sum : FuncId := 246
def n_pile_items_Len : FuncId := 247
def n_pile_items_Less : FuncId := 248
def n_pile_items_Swap : FuncId := 249
def n_pile_items_Pop : FuncId := 250
def n_pile_items_Push : FuncId := 251
def n_pile_items_Len_q : FuncId := 1000247
def n_pile_items_Less_q : FuncId := 1000248
def n_pile_items_Swap_q : FuncId := 1000249
def n_slices_Clone_pile_Item_pile_Item : FuncId := 77
def n_slices_Delete_pile_Item_pile_Item : FuncId := 137
def n_slices_SortFunc_cell_Cell_cell_Cell : FuncId := 128
def F_c_law12_ValueOf : F := ⟨4,[.inl 8],
 (.seq (.reg [.zz 2,.zz 3] [.o 4 (.bg (.k 0)),
 .o 5 (.bg (.k 1)),
 .o 8 (.mv (.c (.b false)))] false [2,3,4,5] [])
 (.seq (.seq (.reg [] [.o 11 (.call n_c_law12_awake []),
 .o 12 (.un .not (.k 11))] false [2,3,4,5,12] [])
 (.cond 12 (.seq (.reg [] [.o 8 (.mv (.c (.b false)))] false [8] [])
 .ret)
 .skip))
 (.seq (.reg [] [.o 14 (.ld false 1 .cp (.t 4)),
 .o 15 (.ld false 1 .cp (.t 5)),
 .o 16 (.call n_c_law12_Kind [.k 14,.k 15]),
 .o 13 (.mv (.k 16)),
 .o 17 (.ex false 0 13),
 .o 18 (.ex false 1 13),
 .s (.st 1 (.t 4) (.k 17)),
 .s (.st 1 (.t 5) (.k 18))] false [2,3,4,5] [])
 (.seq (.reg [] [.o 20 (.ld false 1 .cp (.t 4)),
 .o 21 (.ld false 1 .cp (.t 5)),
 .z 22 (.mv (.k 2)) 2,
 .z 23 (.mv (.k 3)) 2,
 .o 24 (.mf n_c_law12_ValueOf_1 [.k 4,.k 5]),
 .o 25 (.call n_c_law12_Drive [.k 20,.k 21,.k 22,.k 23,.k 24]),
 .o 19 (.mv (.k 25)),
 .o 26 (.ex false 0 19),
 .o 27 (.ex false 1 19),
 .o 9 (.al ([.nilp,.l .o 3 [],.l .o 12 [],.i .i64 0])),
 .s (.st 4 (.k 9) (.k 26)),
 .o 10 (.mv (.k 27))] false [10] [])
 (.seq (.reg [] [.o 28 (.mv (.k 10)),
 .o 8 (.mv (.k 28))] false [8] [])
 .ret)))))⟩

def F_c_law12_awake : F := ⟨0,[.inl 0],
 (.seq (.reg [] [.o 0 (.mv (.c (.b false)))] false [] [])
 (.seq (.reg [] [.o 9 (.call n_cell_New []),
 .o 10 (.call n_value_Of [.c (.i .i64 4),.c (.i .i64 5),.k 9]),
 .o 8 (.mv (.k 10)),
 .o 11 (.ex false 0 8),
 .o 12 (.ex false 1 8),
 .o 1 (.al ([.i .i64 0,.l .o 2 [],.i .i64 0])),
 .s (.st 3 (.k 1) (.k 11)),
 .o 2 (.mv (.k 12))] false [2] [])
 (.seq (.reg [] [.o 13 (.bd ([.f .f64 0,.i .i64 0]) [(1,1,.c (.i .i64 1))]),
 .o 14 (.bd ([.f .f64 0,.i .i64 0]) [(1,1,.c (.i .i64 2))]),
 .o 3 (.al ([.f .f64 0,.i .i64 0])),
 .o 4 (.al ([.f .f64 0,.i .i64 0])),
 .s (.st 2 (.t 3) (.k 13)),
 .s (.st 2 (.t 4) (.k 14))] false [2,3,4] [3,4])
 (.seq (.reg [] [.o 15 (.ld true 2 .cp (.t 3)),
 .o 16 (.ld true 2 .cp (.t 4)),
 .o 17 (.ld true 2 .cp (.t 3)),
 .z 18 (.bs 2 3 (.a ([.f .f64 0,.i .i64 0])) [(0,.k 15),(1,.k 16),(2,.k 17)]) 1,
 .o 19 (.bd ([.i .i64 0,.l .o 2 [],.i .i64 0]) [(0,1,.c (.i .i64 2)),(1,1,.k 18)]),
 .o 5 (.al ([.i .i64 0,.l .o 2 [],.i .i64 0])),
 .s (.st 3 (.t 5) (.k 19))] false [2,3,4,5] [3,4,5])
 (.seq (.reg [] [.z 21 (.ld true 3 .cp (.t 5)) 2,
 .o 22 (.bd ([.i .i64 0,.f .f64 0,.i .i64 0,.i .i64 0,.i .i64 0]) [(0,1,.c (.i .i64 4))]),
 .o 23 (.ld true 2 .cp (.k 3)),
 .o 24 (.bd ([.b false,.f .f64 0,.i .i64 0,.i .i64 0]) [(0,1,.c (.b true)),(1,2,.k 23)]),
 .o 25 (.call n_value_Value_After [.k 21,.k 22,.k 24,.c (.i .i64 2)]),
 .o 20 (.mv (.k 25)),
 .o 26 (.ex false 0 20),
 .o 27 (.ex false 1 20),
 .o 6 (.al ([.i .i64 0,.l .o 2 [],.i .i64 0])),
 .s (.st 3 (.t 6) (.k 26)),
 .o 7 (.mv (.k 27))] false [2,4,5,6,7] [4,5,6])
 (.seq (.reg [] [.o 28 (.mv (.k 2)),
 .o 29 (.bin .eql (.k 28) (.c (.i .i64 5))),
 .o 30 (.mv (.k 29)),
 .c 30 true 31 (.mv (.k 7)),
 .o 32 (.pick (.t 30) (.k 31) (.c (.b false))),
 .o 33 (.mv (.k 32)),
 .c 33 true 34 (.fa 1 (.t 6)),
 .c 33 true 35 (.ld false 1 .cp (.k 34)),
 .c 33 true 36 (.len false (.k 35)),
 .c 33 true 37 (.bin .eql (.k 36) (.c (.i .i64 2))),
 .o 38 (.pick (.t 33) (.k 37) (.c (.b false))),
 .o 39 (.mv (.k 38)),
 .c 39 true 40 (.fa 1 (.t 6)),
 .c 39 true 41 (.ld false 1 .cp (.k 40)),
 .c 39 true 42 (.ia 2 none (.k 41) (.c (.i .i64 0))),
 .c 39 true 43 (.ld true 2 .cp (.k 42)),
 ⟨some 44,some (39,true),.ld true 2 .cp (.k 4),[12,13,14,15],0⟩,
 .c 39 true 45 (.eqa false [.fl,.it] (.k 43) (.k 44)),
 .o 46 (.pick (.t 39) (.k 45) (.c (.b false))),
 .o 47 (.mv (.k 46)),
 ⟨some 48,some (47,true),.ld true 3 .cp (.k 5),[],2⟩,
 ⟨some 49,some (47,true),.ld true 3 .cp (.t 6),[20],2⟩,
 .c 47 true 50 (.call n_value_Value_Same [.k 48,.k 49]),
 .c 47 true 51 (.un .not (.k 50)),
 .o 52 (.pick (.t 47) (.k 51) (.c (.b false))),
 .o 0 (.mv (.k 52))] true [0] [])
 .ret))))))⟩

def F_c_law12_Kind : F := ⟨2,[.inl 4,.inl 5],
 (.seq (.reg [] [.o 4 (.mv (.c (.i .i64 0))),
 .o 5 (.mv (.c (.i .i64 0)))] false [0,1] [])
 (.seq (.reg [] [.o 6 (.mv (.k 0)),
 .o 7 (.bin .and (.k 6) (.c (.i .i64 255))),
 .o 8 (.bin .rem (.k 7) (.c (.i .i64 4))),
 .o 9 (.bin .add (.c (.i .i64 1)) (.k 8)),
 .o 0 (.mv (.k 9))] false [0,1] [])
 (.seq (.seq (.reg [] [.o 10 (.mv (.t 0)),
 .o 11 (.bin .eql (.k 10) (.c (.i .i64 4)))] false [0,1,11] [])
 (.cond 11 (.seq (.reg [] [.o 12 (.mv (.k 0)),
 .u 13 (.mv (.k 1)) [0] 0,
 .u 14 (.bin .and (.k 13) (.c (.i .i64 255))) [0] 0,
 .u 15 (.bin .rem (.k 14) (.c (.i .i64 5))) [0] 0,
 .u 16 (.bin .shl (.c (.i .i64 1)) (.k 15)) [0] 0,
 .u 4 (.mv (.k 12)) [1,2,3,4] 0,
 .o 5 (.mv (.k 16))] true [4,5] [])
 .ret)
 .skip))
 (.seq (.reg [] [.o 17 (.mv (.k 0)),
 .o 18 (.mv (.k 1)),
 .o 19 (.bin .and (.k 18) (.c (.i .i64 255))),
 .o 20 (.bin .rem (.k 19) (.c (.i .i64 16))),
 .o 21 (.bin .add (.c (.i .i64 1)) (.k 20)),
 .o 4 (.mv (.k 17)),
 .o 5 (.mv (.k 21))] false [4,5] [])
 .ret))))⟩

def F_c_law12_Drive : F := ⟨5,[.inr (10,true,4),.inl 11],
 (.seq (.reg [.zz 2,.zz 3] [.o 5 (.bg (.k 0)),
 .o 6 (.bg (.k 1)),
 .o 10 (.al ([.nilp,.l .o 3 [],.l .o 12 [],.i .i64 0])),
 .o 11 (.mv (.c (.b false)))] false [2,3,4,5,6,10] [10])
 (.seq (.reg [] [.o 14 (.ld false 1 .cp (.t 5)),
 .o 15 (.ld false 1 .cp (.t 6)),
 .o 16 (.call n_c_law12_Machine [.k 14,.k 15]),
 .o 12 (.mv (.k 16))] false [2,3,4,5,6,10,12] [10])
 (.seq (.seq (.reg [] [.o 17 (.mv (.t 12)),
 .o 18 (.eq false .ni (.k 17) (.c (.nili)))] false [2,3,4,5,6,10,12,18] [10])
 (.cond 18 (.seq (.reg [] [.o 19 (.bd ([.nilp,.l .o 3 [],.l .o 12 [],.i .i64 0]) []),
 .s (.st 4 (.t 10) (.k 19)),
 .o 11 (.mv (.c (.b false)))] false [10,11] [10])
 .ret)
 .skip))
 (.seq (.reg [] [.o 20 (.mf n_c_law12_Drive_1 [.t 5,.k 6]),
 .o 13 (.mv (.k 20))] false [2,3,4,5,10,12,13] [10])
 (.seq (.reg [] [.o 21 (.ld false 1 .cp (.k 5)),
 .o 22 (.mv (.k 12)),
 .o 23 (.mv (.k 13)),
 .z 24 (.mv (.k 2)) 2,
 .z 25 (.mv (.k 3)) 2,
 .o 26 (.mv (.k 4)),
 .o 27 (.call n_c_law06_Drive [.k 21,.k 22,.k 23,.k 24,.k 25,.k 26]),
 .o 28 (.ex false 0 27),
 .o 29 (.ex false 1 27),
 .s (.st 4 (.t 10) (.k 28)),
 .o 11 (.mv (.k 29))] false [10,11] [10])
 .ret)))))⟩

def F_c_law12_ValueOf_1 : F := ⟨4,[.inl 6],
 (.seq (.reg [.zz 0] [.o 4 (.bx (.k 0)),
 .o 6 (.mv (.c (.b false)))] false [2,3,4] [4])
 (.seq (.reg [] [.o 10 (.ld false 1 .cp (.t 2)),
 .o 11 (.ld false 1 .cp (.t 3)),
 .o 12 (.fa 0 (.t 4)),
 .o 13 (.ld false 1 .cp (.k 12)),
 .o 14 (.call n_value_Of [.k 10,.k 11,.k 13]),
 .o 9 (.mv (.k 14)),
 .o 15 (.ex false 0 9),
 .o 16 (.ex false 1 9),
 .o 7 (.al ([.i .i64 0,.l .o 2 [],.i .i64 0])),
 .s (.st 3 (.t 7) (.k 15)),
 .o 8 (.mv (.k 16))] false [2,3,4,7,8] [4,7])
 (.seq (.reg [] [.o 17 (.mv (.k 8)),
 .o 18 (.bin .eql (.k 17) (.c (.i .i64 0))),
 .o 19 (.mv (.k 18)),
 ⟨some 20,some (19,true),.ld true 3 .cp (.k 7),[],2⟩,
 ⟨some 21,some (19,true),.ld false 1 .cp (.k 2),[3],0⟩,
 ⟨some 22,some (19,true),.ld false 1 .cp (.k 3),[3,4],0⟩,
 ⟨some 23,some (19,true),.fa 1 (.k 4),[3,4,5],0⟩,
 ⟨some 24,some (19,true),.ld true 1 .cp (.k 23),[3,4,5],2⟩,
 ⟨some 25,some (19,true),.call n_c_ref12_Of [.k 21,.k 22,.k 24],[3],2⟩,
 .c 19 true 26 (.call n_c_law12_Is [.k 20,.k 25]),
 .c 19 true 27 (.bin .eql (.k 26) (.c (.i .i64 0))),
 .o 28 (.pick (.t 19) (.k 27) (.c (.b false))),
 .o 6 (.mv (.k 28))] true [6] [])
 .ret)))⟩

def F_value_Of : F := ⟨3,[.inr (6,true,3),.inl 7],
 (.seq (.reg [] [.o 6 (.al ([.i .i64 0,.l .o 2 [],.i .i64 0])),
 .o 7 (.mv (.c (.i .i64 0)))] false [0,1,2,6] [6])
 (.seq (.seq (.reg [] [.o 12 (.mv (.t 0)),
 .o 13 (.mv (.t 1)),
 .o 14 (.call n_op_Legal [.k 12,.k 13]),
 .o 8 (.mv (.k 14))] false [0,1,2,6,8] [6])
 (.seq (.reg [] [.o 15 (.mv (.t 8)),
 .o 16 (.bin .neq (.k 15) (.c (.i .i64 0)))] false [0,1,2,6,8,16] [6])
 (.cond 16 (.seq (.reg [] [.o 17 (.bd ([.i .i64 0,.l .o 2 [],.i .i64 0]) []),
 .o 18 (.mv (.k 8)),
 .s (.st 3 (.t 6) (.k 17)),
 .o 7 (.mv (.k 18))] false [6,7] [6])
 .ret)
 .skip)))
 (.seq (.reg [] [.o 19 (.mv (.t 0)),
 .o 20 (.bd ([.i .i64 0,.l .o 2 [],.i .i64 0]) [(0,1,.k 19)]),
 .o 9 (.al ([.i .i64 0,.l .o 2 [],.i .i64 0])),
 .s (.st 3 (.t 9) (.k 20))] false [0,1,2,6,9] [6,9])
 (.seq (.seq (.reg [] [.o 21 (.mv (.k 0))] false [1,2,6,9,21] [6,9])
 (.blk 0 (.seq (.reg [] [.o 23 (.bin .eql (.t 21) (.c (.i .i64 1))),
 .o 22 (.mv (.k 23))] false [1,2,6,9,21,22] [6,9])
 (.cond 22 (.reg [] [.o 24 (.mv (.k 1)),
 .o 25 (.mv (.k 2)),
 .o 26 (.call n_value_bag [.k 24,.k 25]),
 .o 27 (.fa 1 (.t 9)),
 .s (.st 1 (.k 27) (.k 26))] false [6,9] [6,9])
 (.seq (.reg [] [.o 29 (.bin .eql (.t 21) (.c (.i .i64 2))),
 .o 28 (.mv (.k 29))] false [1,2,6,9,21,28] [6,9])
 (.cond 28 (.reg [] [.o 30 (.mv (.k 2)),
 .o 31 (.call n_value_line [.k 30]),
 .o 32 (.fa 1 (.t 9)),
 .s (.st 1 (.k 32) (.k 31))] false [6,9] [6,9])
 (.seq (.reg [] [.o 34 (.bin .eql (.t 21) (.c (.i .i64 3))),
 .o 33 (.mv (.k 34))] false [1,2,6,9,21,33] [6,9])
 (.cond 33 (.reg [] [.o 35 (.mv (.k 1)),
 .o 36 (.mv (.k 2)),
 .o 37 (.call n_value_sum [.c (.i .i64 0),.k 35,.k 36]),
 .o 38 (.fa 2 (.t 9)),
 .s (.st 1 (.k 38) (.k 37))] false [6,9] [6,9])
 (.seq (.reg [] [.o 40 (.bin .eql (.k 21) (.c (.i .i64 4))),
 .o 39 (.mv (.k 40))] false [1,2,6,9,39] [6,9])
 (.cond 39 (.seq (.reg [] [.o 42 (.mv (.t 1)),
 .o 43 (.callp n_net_New [.k 42]),
 .o 41 (.mv (.k 43)),
 .o 44 (.ex false 0 41),
 .o 45 (.ex false 1 41),
 .o 10 (.al ([.i .i64 0,.l .o 2 [],.l .o 1 []])),
 .s (.st 3 (.t 10) (.k 44)),
 .o 11 (.mv (.k 45))] false [1,2,6,9,10] [6,9,10])
 (.reg [] [.z 46 (.ld true 3 .tk (.k 10)) 2,
 .o 47 (.call n_net_Net_Out [.k 46,.c (.i .i64 0)]),
 .o 48 (.mv (.k 1)),
 .o 49 (.mv (.k 2)),
 .o 50 (.call n_value_sum [.k 47,.k 48,.k 49]),
 .o 51 (.fa 2 (.t 9)),
 .s (.st 1 (.k 51) (.k 50))] false [6,9] [6,9]))
 .skip))))))))))
 (.seq (.reg [] [.o 52 (.ld true 3 .tk (.k 9)),
 .s (.st 3 (.t 6) (.k 52)),
 .o 7 (.mv (.c (.i .i64 0)))] false [6,7] [6])
 .ret)))))⟩

def F_c_law12_Is : F := ⟨2,[.inl 4],
 (.seq (.reg [.zz 0,.zz 1] [.o 2 (.bx (.k 0)),
 .o 3 (.bx (.k 1)),
 .o 4 (.mv (.c (.i .i64 0)))] false [2,3] [2,3])
 (.seq (.seq (.reg [] [.o 5 (.fa 0 (.t 2)),
 .o 6 (.ld false 1 .cp (.k 5)),
 .o 7 (.fa 0 (.t 3)),
 .o 8 (.ld false 1 .cp (.k 7)),
 .o 9 (.bin .neq (.k 6) (.k 8)),
 .o 10 (.mv (.k 9)),
 .c 10 false 11 (.fa 2 (.t 2)),
 .c 10 false 12 (.ld false 1 .cp (.k 11)),
 .c 10 false 13 (.fa 2 (.t 3)),
 .c 10 false 14 (.ld false 1 .cp (.k 13)),
 .c 10 false 15 (.bin .neq (.k 12) (.k 14)),
 .o 16 (.pick (.k 10) (.c (.b true)) (.k 15))] false [2,3,16] [2,3])
 (.cond 16 (.seq (.reg [] [.o 4 (.mv (.c (.i .i64 (-1))))] false [4] [])
 .ret)
 .skip))
 (.seq (.reg [] [.o 17 (.fa 1 (.k 2)),
 .z 18 (.ld false 1 .tk (.k 17)) 2,
 .o 19 (.fa 1 (.k 3)),
 .z 20 (.ld false 1 .tk (.k 19)) 2,
 .o 21 (.call n_c_law04_Are [.k 18,.k 20]),
 .o 4 (.mv (.k 21))] false [4] [])
 .ret)))⟩

def F_c_ref12_Of : F := ⟨3,[.inr (6,true,3)],
 (.seq (.reg [.zz 2] [.o 5 (.bx (.k 2)),
 .o 6 (.al ([.i .i64 0,.l .o 2 [],.i .i64 0]))] false [0,1,5,6] [5,6])
 (.seq (.seq (.reg [] [.o 7 (.mv (.k 0))] false [1,5,6,7] [5,6])
 (.blk 0 (.seq (.reg [] [.o 9 (.bin .eql (.t 7) (.c (.i .i64 1))),
 .o 8 (.mv (.k 9))] false [1,5,6,7,8] [5,6])
 (.cond 8 (.seq (.reg [] [.z 10 (.ld true 1 .tk (.k 5)) 2,
 .o 11 (.mv (.k 1)),
 .o 12 (.call n_c_ref08_All [.k 10,.k 11]),
 .o 13 (.bd ([.i .i64 0,.l .o 2 [],.i .i64 0]) [(0,1,.c (.i .i64 1)),(1,1,.k 12)]),
 .s (.st 3 (.t 6) (.k 13))] false [6] [6])
 .ret)
 (.seq (.reg [] [.o 15 (.bin .eql (.t 7) (.c (.i .i64 2))),
 .o 14 (.mv (.k 15))] false [1,5,6,7,14] [5,6])
 (.cond 14 (.seq (.reg [] [.z 16 (.ld true 1 .tk (.k 5)) 2,
 .o 17 (.call n_c_ref09_All [.k 16]),
 .o 18 (.bd ([.i .i64 0,.l .o 2 [],.i .i64 0]) [(0,1,.c (.i .i64 2)),(1,1,.k 17)]),
 .s (.st 3 (.t 6) (.k 18))] false [6] [6])
 .ret)
 (.seq (.reg [] [.o 20 (.bin .eql (.k 7) (.c (.i .i64 3))),
 .o 19 (.mv (.k 20))] false [1,5,6,19] [5,6])
 (.cond 19 (.seq (.reg [] [.z 21 (.ld true 1 .tk (.k 5)) 2,
 .o 22 (.mv (.k 1)),
 .o 23 (.call n_c_ref07_Sum [.k 21,.k 22]),
 .o 24 (.bd ([.i .i64 0,.l .o 2 [],.i .i64 0]) [(0,1,.c (.i .i64 3)),(2,1,.k 23)]),
 .s (.st 3 (.t 6) (.k 24))] false [6] [6])
 .ret)
 .skip))))))))
 (.seq (.reg [] [.z 25 (.ld true 1 .cp (.k 5)) 2,
 .u 26 (.mv (.k 1)) [0] 0,
 .u 27 (.callp n_c_ref10_Count [.c (.i .i64 0),.k 26]) [0] 2,
 .o 28 (.call n_c_ref11_Total [.k 25,.k 27]),
 .o 29 (.bd ([.i .i64 0,.l .o 2 [],.i .i64 0]) [(0,1,.c (.i .i64 4)),(2,1,.k 28)]),
 .s (.st 3 (.t 6) (.k 29))] true [6] [6])
 .ret)))⟩

def F_cell_New : F := ⟨0,[.inl 0],
 (.seq (.reg [] [.o 0 (.mv (.c (.nilp)))] false [] [])
 (.seq (.reg [] [.o 1 (.bd ([.l .x 3 [],.i .u64 0]) []),
 .o 2 (.bg (.k 1)),
 .o 0 (.mv (.k 2))] false [0] [])
 .ret))⟩

def F_value_Value_Same : F := ⟨2,[.inl 4],
 (.seq (.reg [.zz 0,.zz 1] [.o 2 (.bx (.k 0)),
 .o 3 (.bx (.k 1)),
 .o 4 (.mv (.c (.b false)))] false [2,3] [2,3])
 (.seq (.reg [] [.o 5 (.fa 0 (.t 2)),
 .o 6 (.ld false 1 .cp (.k 5)),
 .o 7 (.fa 0 (.t 3)),
 .o 8 (.ld false 1 .cp (.k 7)),
 .o 9 (.bin .eql (.k 6) (.k 8)),
 .o 10 (.mv (.k 9)),
 .c 10 true 11 (.fa 2 (.t 2)),
 .c 10 true 12 (.ld false 1 .cp (.k 11)),
 .c 10 true 13 (.fa 2 (.t 3)),
 .c 10 true 14 (.ld false 1 .cp (.k 13)),
 .c 10 true 15 (.bin .eql (.k 12) (.k 14)),
 .o 16 (.pick (.k 10) (.k 15) (.c (.b false))),
 .o 17 (.mv (.k 16)),
 .c 17 true 18 (.fa 1 (.k 2)),
 ⟨some 19,some (17,true),.ld false 1 .tk (.k 18),[],2⟩,
 .c 17 true 20 (.fa 1 (.k 3)),
 ⟨some 21,some (17,true),.ld false 1 .tk (.k 20),[],2⟩,
 .c 17 true 22 (.call n_slices_EqualFunc_pile_Item_pile_Item_pile_Item_pile_Item_1 [.k 19,.k 21,.c (.fn n_value_Value_Same_1 [])]),
 .o 23 (.pick (.k 17) (.k 22) (.c (.b false))),
 .o 4 (.mv (.k 23))] false [4] [])
 .ret))⟩

def F_value_Value_After : F := ⟨4,[.inr (8,true,3),.inl 9],
 (.seq (.reg [.zz 0] [.o 4 (.bx (.k 0)),
 .o 5 (.bx (.k 1)),
 .o 6 (.bx (.k 2)),
 .o 8 (.al ([.i .i64 0,.l .o 2 [],.i .i64 0])),
 .o 9 (.mv (.c (.b false)))] false [3,4,5,6,8] [4,5,6,8])
 (.seq (.seq (.reg [] [.o 10 (.ld true 5 .cp (.t 5)),
 .o 11 (.fa 0 (.t 4)),
 .o 12 (.ld false 1 .cp (.k 11)),
 .o 13 (.call n_op_Op_Check [.k 10,.k 12]),
 .o 14 (.bin .neq (.k 13) (.c (.i .i64 0)))] false [3,4,5,6,8,14] [4,5,6,8])
 (.cond 14 (.seq (.reg [] [.o 15 (.ld true 3 .tk (.k 4)),
 .s (.st 3 (.t 8) (.k 15)),
 .o 9 (.mv (.c (.b false)))] false [8,9] [8])
 .ret)
 .skip))
 (.seq (.seq (.reg [] [.o 16 (.fa 0 (.t 6)),
 .o 17 (.ld false 1 .cp (.k 16)),
 .o 18 (.un .not (.k 17))] false [3,4,5,6,8,18] [4,5,6,8])
 (.cond 18 (.seq (.reg [] [.o 19 (.ld true 3 .cp (.k 4)),
 .u 20 (.fa 0 (.k 5)) [0] 0,
 .u 21 (.ld false 1 .cp (.k 20)) [0] 0,
 .u 22 (.bin .leq (.k 21) (.c (.i .i64 4))) [0] 0,
 ⟨none,none,.st 3 (.t 8) (.k 19),[1,2,3],0⟩,
 .o 9 (.mv (.k 22))] true [8,9] [8])
 .ret)
 .skip))
 (.seq (.seq (.reg [] [.o 23 (.fa 0 (.t 5)),
 .o 24 (.ld false 1 .cp (.k 23))] false [3,4,5,6,8,24] [4,5,6,8])
 (.blk 0 (.seq (.reg [] [.o 26 (.bin .eql (.t 24) (.c (.i .i64 1))),
 .o 25 (.mv (.k 26))] false [3,4,5,6,8,24,25] [4,5,6,8])
 (.cond 25 (.reg [] [.o 27 (.fa 1 (.t 4)),
 .z 28 (.ld false 1 .cp (.k 27)) 2,
 .o 29 (.call n_slices_Clone_pile_Item_pile_Item [.k 28]),
 .u 30 (.fa 1 (.k 5)) [0,1,2] 0,
 .u 31 (.ld true 2 .cp (.k 30)) [0,1,2] 0,
 .u 32 (.bs 2 1 (.a ([.f .f64 0,.i .i64 0])) [(0,.k 31)]) [0,1,2] 0,
 .z 33 (.app 2 16 (.k 29) (.k 32)) 2,
 .o 34 (.call n_pile_Sorted [.k 33]),
 .o 35 (.fa 1 (.t 4)),
 .s (.st 1 (.k 35) (.k 34))] true [4,8] [4,8])
 (.seq (.reg [] [.o 37 (.bin .eql (.t 24) (.c (.i .i64 3))),
 .o 36 (.mv (.k 37))] false [3,4,5,6,8,24,36] [4,5,6,8])
 (.cond 36 (.reg [] [.o 38 (.fa 1 (.t 4)),
 .z 39 (.ld false 1 .cp (.k 38)) 2,
 .o 40 (.call n_slices_Clone_pile_Item_pile_Item [.k 39]),
 .u 41 (.fa 1 (.k 5)) [0,1,2] 0,
 .u 42 (.ld true 2 .cp (.k 41)) [0,1,2] 0,
 .o 43 (.call n_pile_Item_Canon [.k 42]),
 .o 44 (.bs 2 1 (.a ([.f .f64 0,.i .i64 0])) [(0,.k 43)]),
 .z 45 (.app 2 16 (.k 40) (.k 44)) 1,
 .o 46 (.fa 1 (.t 4)),
 .s (.st 1 (.k 46) (.k 45))] true [4,8] [4,8])
 (.seq (.reg [] [.o 48 (.bin .eql (.t 24) (.c (.i .i64 2))),
 .o 47 (.mv (.k 48))] false [3,4,5,6,8,24,47] [4,5,6,8])
 (.cond 47 (.seq (.reg [] [.z 49 (.ld true 3 .cp (.t 4)) 2,
 .o 50 (.fa 1 (.k 6)),
 .o 51 (.ld true 2 .cp (.k 50)),
 .o 52 (.fa 1 (.k 4)),
 .o 53 (.ld false 1 .tk (.k 52)),
 .o 54 (.len false (.k 53)),
 .o 55 (.call n_value_Value_without [.k 49,.k 51,.k 54]),
 .o 56 (.ex false 0 55),
 .o 57 (.ex false 1 55),
 .s (.st 3 (.t 8) (.k 56)),
 .o 9 (.mv (.k 57))] false [8,9] [8])
 .ret)
 (.seq (.reg [] [.o 59 (.bin .eql (.t 24) (.c (.i .i64 4))),
 .o 58 (.mv (.k 59))] false [3,4,5,6,8,24,58] [4,5,6,8])
 (.cond 58 (.seq (.reg [] [.z 60 (.ld true 3 .tk (.k 4)) 2,
 .o 61 (.fa 1 (.k 6)),
 .o 62 (.ld true 2 .cp (.k 61)),
 .o 63 (.mv (.k 3)),
 .o 64 (.call n_value_Value_without [.k 60,.k 62,.k 63]),
 .o 65 (.ex false 0 64),
 .o 66 (.ex false 1 64),
 .s (.st 3 (.t 8) (.k 65)),
 .o 9 (.mv (.k 66))] false [8,9] [8])
 .ret)
 (.seq (.reg [] [.o 68 (.bin .eql (.t 24) (.c (.i .i64 5))),
 .o 67 (.mv (.k 68))] false [4,5,8,24,67] [4,5,8])
 (.cond 67 (.reg [] [.o 69 (.fa 2 (.t 4)),
 .o 70 (.ld false 1 .cp (.k 69)),
 .o 71 (.fa 1 (.k 5)),
 .o 72 (.fa 1 (.k 71)),
 .o 73 (.ld false 1 .cp (.k 72)),
 .o 74 (.bin .add (.k 70) (.k 73)),
 .o 75 (.fa 2 (.t 4)),
 .s (.st 1 (.k 75) (.k 74))] false [4,8] [4,8])
 (.seq (.reg [] [.o 77 (.bin .eql (.k 24) (.c (.i .i64 7))),
 .o 76 (.mv (.k 77))] false [4,8,76] [4,8])
 (.cond 76 (.reg [] [.o 78 (.fa 2 (.t 4)),
 .o 79 (.ld false 1 .cp (.k 78)),
 .o 80 (.bin .add (.k 79) (.c (.i .i64 1))),
 .o 81 (.fa 2 (.t 4)),
 .s (.st 1 (.k 81) (.k 80))] false [4,8] [4,8])
 .skip))))))))))))))
 (.seq (.reg [] [.o 82 (.ld true 3 .tk (.k 4)),
 .s (.st 3 (.t 8) (.k 82)),
 .o 9 (.mv (.c (.b true)))] false [8,9] [8])
 .ret)))))⟩

def F_pile_Sorted : F := ⟨1,[.inl 2],
 (.seq (.reg [.zz 0] [.o 2 (.mv (.c (.l .o 2 [])))] false [0] [])
 (.seq (.reg [] [.z 3 (.mv (.k 0)) 2,
 .o 4 (.call n_pile_New [.k 3]),
 .o 5 (.call n_pile_Pile_All [.k 4]),
 .o 2 (.mv (.k 5))] false [2] [])
 .ret))⟩

def F_c_law06_Run_Same : F := ⟨1,[.inl 2],
 (.seq (.reg [.zz 0] [.o 1 (.bx (.k 0)),
 .o 2 (.mv (.c (.i .i64 0)))] false [1] [1])
 (.seq (.seq (.reg [] [.o 7 (.fa 0 (.t 1)),
 .o 8 (.ld false 1 .cp (.k 7)),
 .o 9 (.call n_cell_Memory_Clock [.k 8]),
 .u 10 (.fa 1 (.t 1)) [0,1,2] 0,
 .u 11 (.fa 0 (.k 10)) [0,1,2] 0,
 .u 12 (.ld false 1 .cp (.k 11)) [0,1,2] 0,
 .u 13 (.len false (.k 12)) [0,1,2] 0,
 .u 14 (.cv (.int .u64) (.k 13)) [0,1,2] 0,
 .o 15 (.bin .neq (.k 9) (.k 14)),
 .o 16 (.mv (.k 15)),
 .c 16 false 17 (.fa 0 (.t 1)),
 .c 16 false 18 (.ld false 1 .cp (.k 17)),
 .c 16 false 19 (.call n_cell_Memory_Len [.k 18]),
 ⟨some 20,some (16,false),.fa 1 (.t 1),[10,11,12],0⟩,
 ⟨some 21,some (16,false),.ld true 1 .cp (.k 20),[10,11,12],2⟩,
 .c 16 false 22 (.call n_c_ref05_Len [.k 21]),
 .c 16 false 23 (.bin .neq (.k 19) (.k 22)),
 .o 24 (.pick (.t 16) (.c (.b true)) (.k 23))] true [1,24] [1])
 (.cond 24 (.seq (.reg [] [.o 2 (.mv (.c (.i .i64 (-1))))] false [2] [])
 .ret)
 .skip))
 (.seq (.seq (.reg [] [.o 3 (.mv (.c (.i .i64 0)))] false [1,3] [1])
 (.blk 0 (.loop (.seq (.seq (.reg [] [.o 25 (.mv (.t 3)),
 .o 26 (.fa 0 (.t 1)),
 .o 27 (.ld false 1 .cp (.k 26)),
 .o 28 (.call n_cell_Memory_Len [.k 27]),
 .o 29 (.bin .lss (.k 25) (.k 28))] false [1,3,29] [1])
 (.cond 29 .skip
 (.exit 0)))
 (.seq (.blk 1 (.seq (.reg [] [.o 33 (.fa 1 (.t 1)),
 .z 34 (.ld true 1 .cp (.k 33)) 2,
 .o 35 (.mv (.t 3)),
 .o 36 (.call n_c_ref05_Read [.k 34,.k 35]),
 .o 32 (.mv (.k 36)),
 .o 37 (.ex false 0 32),
 .o 38 (.ex false 1 32),
 .o 5 (.al ([.i .i64 0,.l .o 2 []])),
 .o 4 (.mv (.k 37)),
 .s (.st 2 (.t 5) (.k 38))] false [1,3,4,5] [1,5])
 (.seq (.reg [] [.o 39 (.fa 0 (.t 1)),
 .o 40 (.ld false 1 .cp (.k 39)),
 .o 41 (.mv (.t 3)),
 .o 42 (.call n_cell_Memory_Read [.k 40,.k 41]),
 .o 6 (.al ([.i .u64 0,.i .i64 0,.l .o 2 []])),
 .s (.st 3 (.t 6) (.k 42))] false [1,3,4,5,6] [1,5,6])
 (.seq (.reg [] [.o 43 (.fa 0 (.t 6)),
 .o 44 (.ld false 1 .cp (.k 43)),
 .o 45 (.mv (.k 4)),
 .o 46 (.cv (.int .u64) (.k 45)),
 .o 47 (.bin .neq (.k 44) (.k 46)),
 .o 48 (.mv (.k 47)),
 .c 48 false 49 (.fa 1 (.k 6)),
 ⟨some 50,some (48,false),.ld true 2 .tk (.k 49),[],2⟩,
 ⟨some 51,some (48,false),.ld true 2 .tk (.k 5),[],2⟩,
 .c 48 false 52 (.call n_c_law05_Is [.k 50,.k 51]),
 .c 48 false 53 (.bin .neq (.k 52) (.c (.i .i64 0))),
 .o 54 (.pick (.k 48) (.c (.b true)) (.k 53))] false [1,3,54] [1])
 (.cond 54 (.seq (.reg [] [.o 2 (.mv (.c (.i .i64 (-1))))] false [2] [])
 .ret)
 .skip)))))
 (.reg [] [.o 30 (.mv (.k 3)),
 .o 31 (.bin .add (.k 30) (.c (.i .i64 1))),
 .o 3 (.mv (.k 31))] false [1,3] [1]))))))
 (.seq (.reg [] [.o 2 (.mv (.c (.i .i64 0)))] false [2] [])
 .ret))))⟩

def F_c_law06_Own : F := ⟨2,[.inr (4,true,5)],
 (.seq (.reg [] [.o 3 (.bx (.k 1)),
 .o 4 (.al ([.i .i64 0,.f .f64 0,.i .i64 0,.i .i64 0,.i .i64 0]))] false [0,3,4] [3,4])
 (.seq (.reg [] [.o 9 (.mv (.k 0)),
 .o 10 (.call n_c_ref06_Of [.k 9]),
 .o 8 (.mv (.k 10)),
 .o 11 (.ex false 0 8),
 .o 12 (.ex false 1 8),
 .o 5 (.mv (.k 11)),
 .o 6 (.mv (.k 12))] false [3,4,5,6] [3,4])
 (.seq (.reg [] [.o 13 (.mv (.t 5)),
 .u 14 (.fa 0 (.t 3)) [0] 0,
 .u 15 (.ld false 1 .cp (.k 14)) [0] 0,
 .u 16 (.mv (.k 6)) [0,1,2] 0,
 .u 17 (.mv (.t 5)) [0,1,2,3] 0,
 .u 18 (.bin .sub (.k 16) (.k 17)) [0,1,2] 0,
 .u 19 (.bin .add (.k 18) (.c (.i .i64 1))) [0,1,2] 0,
 .u 20 (.call n_c_ref06_Into [.k 15,.k 19]) [0] 0,
 .o 21 (.bin .add (.k 13) (.k 20)),
 .u 22 (.fa 1 (.t 3)) [0,1,2,3,4,5,6,7,8] 0,
 .u 23 (.ld true 2 .cp (.k 22)) [0,1,2,3,4,5,6,7,8] 0,
 .u 24 (.call n_c_law04_Own [.k 23]) [0,8] 0,
 .u 25 (.fa 3 (.t 3)) [0,1,2,3,4,5,6,7,8,9,10,11] 0,
 .u 26 (.ld false 1 .cp (.k 25)) [0,1,2,3,4,5,6,7,8,9,10,11] 0,
 .u 27 (.fa 4 (.t 3)) [0,1,2,3,4,5,6,7,8,9,10,11,12,13] 0,
 .u 28 (.ld false 1 .cp (.k 27)) [0,1,2,3,4,5,6,7,8,9,10,11,12,13] 0,
 .u 29 (.bd ([.i .i64 0,.i .i64 0]) [(0,1,.k 26),(1,1,.k 28)]) [0,1,2,3,4,5,6,7,8,9,10,11] 0,
 .o 30 (.bd ([.i .i64 0,.f .f64 0,.i .i64 0,.i .i64 0,.i .i64 0]) [(0,1,.k 21),(1,2,.k 24),(3,2,.k 29)]),
 .u 7 (.al ([.i .i64 0,.f .f64 0,.i .i64 0,.i .i64 0,.i .i64 0])) [0,1,2,3,4,5,6,7,8,9,10,11,12,13,14,15,16,17] 0,
 .s (.st 5 (.t 7) (.k 30))] true [4,7] [4,7])
 (.seq (.seq (.reg [] [.o 31 (.fa 0 (.t 7)),
 .o 32 (.ld false 1 .cp (.k 31)),
 .o 33 (.bin .eql (.k 32) (.c (.i .i64 5)))] false [4,7,33] [4,7])
 (.cond 33 (.reg [] [.o 34 (.fa 1 (.t 7)),
 .o 35 (.fa 1 (.k 34)),
 .o 36 (.ld false 1 .cp (.k 35)),
 .o 37 (.bin .and (.k 36) (.c (.i .i64 4294967295))),
 .o 38 (.fa 1 (.t 7)),
 .o 39 (.fa 1 (.k 38)),
 .s (.st 1 (.k 39) (.k 37))] false [4,7] [4,7])
 .skip))
 (.seq (.reg [] [.o 40 (.ld true 5 .cp (.k 7)),
 .s (.st 5 (.t 4) (.k 40))] false [4] [4])
 .ret)))))⟩

def F_pile_Item_Cmp : F := ⟨2,[.inl 4],
 (.seq (.reg [] [.o 2 (.bx (.k 0)),
 .o 3 (.bx (.k 1)),
 .o 4 (.mv (.c (.i .i64 0)))] false [2,3] [2,3])
 (.seq (.seq (.reg [] [.o 6 (.fa 0 (.t 2)),
 .o 7 (.ld false 1 .cp (.k 6)),
 .o 8 (.fa 0 (.t 3)),
 .o 9 (.ld false 1 .cp (.k 8)),
 .o 10 (.call n_real_Cmp [.k 7,.k 9]),
 .o 5 (.mv (.k 10))] false [2,3,5] [2,3])
 (.seq (.reg [] [.o 11 (.mv (.t 5)),
 .o 12 (.bin .neq (.k 11) (.c (.i .i64 0)))] false [2,3,5,12] [2,3])
 (.cond 12 (.seq (.reg [] [.o 13 (.mv (.k 5)),
 .o 4 (.mv (.k 13))] false [4] [])
 .ret)
 .skip)))
 (.seq (.blk 0 (.seq (.reg [] [.o 15 (.fa 1 (.t 2)),
 .o 16 (.ld false 1 .cp (.k 15)),
 .o 17 (.fa 1 (.t 3)),
 .o 18 (.ld false 1 .cp (.k 17)),
 .o 19 (.bin .lss (.k 16) (.k 18)),
 .o 14 (.mv (.k 19))] false [2,3,14] [2,3])
 (.cond 14 (.seq (.reg [] [.o 4 (.mv (.c (.i .i64 (-1))))] false [4] [])
 .ret)
 (.seq (.reg [] [.o 21 (.fa 1 (.k 2)),
 .o 22 (.ld false 1 .cp (.k 21)),
 .o 23 (.fa 1 (.k 3)),
 .o 24 (.ld false 1 .cp (.k 23)),
 .o 25 (.bin .gtr (.k 22) (.k 24)),
 .o 20 (.mv (.k 25))] false [20] [])
 (.cond 20 (.seq (.reg [] [.o 4 (.mv (.c (.i .i64 1)))] false [4] [])
 .ret)
 .skip)))))
 (.seq (.reg [] [.o 4 (.mv (.c (.i .i64 0)))] false [4] [])
 .ret))))⟩

def F_cell_Memory_Clock : F := ⟨1,[.inl 2],
 (.seq (.reg [] [.o 2 (.mv (.c (.i .u64 0)))] false [0] [])
 (.seq (.reg [] [.o 3 (.mv (.k 0)),
 .o 4 (.nc (.k 3)),
 .o 5 (.fa 1 (.k 4)),
 .o 6 (.ld false 1 .cp (.k 5)),
 .o 2 (.mv (.k 6))] false [2] [])
 .ret))⟩

def F_c_law04_Are : F := ⟨2,[.inl 4],
 (.seq (.reg [.zz 0,.zz 1] [.o 4 (.mv (.c (.i .i64 0)))] false [0,1] [])
 (.seq (.seq (.reg [] [.o 6 (.mv (.t 0)),
 .o 7 (.len false (.k 6)),
 .o 8 (.mv (.t 1)),
 .o 9 (.len false (.k 8)),
 .o 10 (.bin .neq (.k 7) (.k 9))] false [0,1,10] [])
 (.cond 10 (.seq (.reg [] [.o 4 (.mv (.c (.i .i64 (-1))))] false [4] [])
 .ret)
 .skip))
 (.seq (.seq (.reg [] [.o 11 (.mv (.t 1)),
 .o 12 (.len false (.k 11)),
 .o 13 (.mv (.c (.i .i64 0)))] false [0,1,12,13] [])
 (.blk 0 (.loop (.seq (.reg [] [.o 14 (.bin .lss (.t 13) (.t 12))] false [0,1,12,13,14] [])
 (.seq (.cond 14 .skip
 (.exit 0))
 (.seq (.blk 1 (.seq (.reg [] [.o 15 (.mv (.t 13)),
 .o 5 (.mv (.k 15))] false [0,1,5,12,13] [])
 (.seq (.reg [] [.o 16 (.mv (.t 0)),
 .u 17 (.mv (.t 5)) [0] 0,
 .o 18 (.ia 2 none (.k 16) (.k 17)),
 .o 19 (.ld true 2 .cp (.k 18)),
 .u 20 (.mv (.t 1)) [0,1,2,3] 0,
 .u 21 (.mv (.t 5)) [0,1,2,3,4] 0,
 .u 22 (.ia 2 none (.k 20) (.k 21)) [0,1,2,3] 0,
 .u 23 (.ld true 2 .cp (.k 22)) [0,1,2,3] 0,
 .o 24 (.call n_c_law04_Is [.k 19,.k 23]),
 .o 25 (.bin .neq (.k 24) (.c (.i .i64 0)))] true [0,1,12,13,25] [])
 (.cond 25 (.seq (.reg [] [.o 4 (.mv (.c (.i .i64 (-1))))] false [4] [])
 .ret)
 .skip))))
 (.reg [] [.o 26 (.bin .add (.k 13) (.c (.i .i64 1))),
 .o 13 (.mv (.k 26))] false [0,1,12,13] [])))))))
 (.seq (.reg [] [.o 4 (.mv (.c (.i .i64 0)))] false [4] [])
 .ret))))⟩

def F_c_law12_Machine : F := ⟨2,[.inl 4],
 (.seq (.reg [] [.o 4 (.mv (.c (.nili)))] false [0,1] [])
 (.seq (.seq (.reg [] [.o 13 (.mv (.k 0))] false [1,13] [])
 (.blk 0 (.seq (.reg [] [.o 15 (.bin .eql (.t 13) (.c (.i .i64 1))),
 .o 14 (.mv (.k 15))] false [1,13,14] [])
 (.cond 14 (.seq (.reg [] [.o 17 (.mv (.k 1)),
 .o 18 (.call n_multi_New [.k 17]),
 .o 16 (.mv (.k 18)),
 .o 19 (.ex false 0 16),
 .o 20 (.ex false 1 16),
 .o 5 (.al ([.i .i64 0])),
 .s (.st 1 (.t 5) (.k 19)),
 .o 6 (.mv (.k 20))] false [5,6] [5])
 (.seq (.reg [] [.o 21 (.mv (.k 6)),
 .o 22 (.bin .eql (.k 21) (.c (.i .i64 0)))] false [5,22] [5])
 (.cond 22 (.seq (.reg [] [.o 23 (.ld true 1 .cp (.k 5)),
 .o 24 (.mi t_multi_Multi (.k 23)),
 .o 4 (.mv (.k 24))] false [4] [])
 .ret)
 .skip)))
 (.seq (.reg [] [.o 26 (.bin .eql (.t 13) (.c (.i .i64 2))),
 .o 25 (.mv (.k 26))] false [1,13,25] [])
 (.cond 25 (.seq (.reg [] [.o 28 (.mv (.k 1)),
 .o 29 (.call n_kfifo_New [.k 28]),
 .o 27 (.mv (.k 29)),
 .o 30 (.ex false 0 27),
 .o 31 (.ex false 1 27),
 .o 7 (.al ([.i .i64 0])),
 .s (.st 1 (.t 7) (.k 30)),
 .o 8 (.mv (.k 31))] false [7,8] [7])
 (.seq (.reg [] [.o 32 (.mv (.k 8)),
 .o 33 (.bin .eql (.k 32) (.c (.i .i64 0)))] false [7,33] [7])
 (.cond 33 (.seq (.reg [] [.o 34 (.ld true 1 .cp (.k 7)),
 .o 35 (.mi t_kfifo_Queue (.k 34)),
 .o 4 (.mv (.k 35))] false [4] [])
 .ret)
 .skip)))
 (.seq (.reg [] [.o 37 (.bin .eql (.t 13) (.c (.i .i64 3))),
 .o 36 (.mv (.k 37))] false [1,13,36] [])
 (.cond 36 (.seq (.reg [] [.o 39 (.mv (.k 1)),
 .o 40 (.call n_tally_New [.k 39]),
 .o 38 (.mv (.k 40)),
 .o 41 (.ex false 0 38),
 .o 42 (.ex false 1 38),
 .o 9 (.al ([.i .i64 0])),
 .s (.st 1 (.t 9) (.k 41)),
 .o 10 (.mv (.k 42))] false [9,10] [9])
 (.seq (.reg [] [.o 43 (.mv (.k 10)),
 .o 44 (.bin .eql (.k 43) (.c (.i .i64 0)))] false [9,44] [9])
 (.cond 44 (.seq (.reg [] [.o 45 (.ld true 1 .cp (.k 9)),
 .o 46 (.mi t_tally_Tally (.k 45)),
 .o 4 (.mv (.k 46))] false [4] [])
 .ret)
 .skip)))
 (.seq (.reg [] [.o 48 (.bin .eql (.k 13) (.c (.i .i64 4))),
 .o 47 (.mv (.k 48))] false [1,47] [])
 (.cond 47 (.seq (.reg [] [.o 50 (.mv (.k 1)),
 .o 51 (.callp n_net_New [.k 50]),
 .o 49 (.mv (.k 51)),
 .o 52 (.ex false 0 49),
 .o 53 (.ex false 1 49),
 .o 11 (.al ([.i .i64 0,.l .o 2 [],.l .o 1 []])),
 .s (.st 3 (.t 11) (.k 52)),
 .o 12 (.mv (.k 53))] false [11,12] [11])
 (.seq (.reg [] [.o 54 (.mv (.k 12)),
 .o 55 (.bin .eql (.k 54) (.c (.i .i64 0)))] false [11,55] [11])
 (.cond 55 (.seq (.reg [] [.o 56 (.ld true 3 .tk (.k 11)),
 .o 57 (.mi t_net_Net (.k 56)),
 .o 4 (.mv (.k 57))] false [4] [])
 .ret)
 .skip)))
 .skip))))))))))
 (.seq (.reg [] [.o 4 (.mv (.c (.nili)))] false [4] [])
 .ret)))⟩

def F_c_law12_Drive_1 : F := ⟨4,[.inr (6,true,1),.inr (7,true,17),.inr (8,true,4),.inl 9],
 (.seq (.reg [.zz 0,.zz 1] [.o 4 (.bx (.k 0)),
 .o 5 (.bx (.k 1)),
 .o 6 (.al ([.l .o 3 []])),
 .o 7 (.al ([.i .i64 0,.i .u64 0,.i .i64 0,.i .i64 0,.i .i64 0,.i .i64 0,.i .i64 0,.i .i64 0,.i .i64 0,.i .i64 0,.b false,.i .i64 0,.i .i64 0,.i .i64 0,.l .o 2 [],.i .i64 0,.l .o 2 []])),
 .o 8 (.al ([.b false,.i .u64 0,.i .i64 0,.i .i64 0])),
 .o 9 (.mv (.c (.b false)))] false [2,3,4,5,6,7,8] [4,5,6,7,8])
 (.seq (.reg [] [.o 10 (.ld false 1 .cp (.k 2)),
 .o 11 (.ld false 1 .cp (.k 3)),
 .z 12 (.ld true 1 .tk (.k 4)) 2,
 .z 13 (.ld true 17 .tk (.k 5)) 2,
 .o 14 (.call n_c_ref12_Step [.k 10,.k 11,.k 12,.k 13]),
 .o 15 (.ex false 0 14),
 .o 16 (.ex false 1 14),
 .o 17 (.ex false 2 14),
 .o 18 (.ex false 3 14),
 .s (.st 1 (.t 6) (.k 15)),
 .s (.st 17 (.t 7) (.k 16)),
 .s (.st 4 (.t 8) (.k 17)),
 .o 9 (.mv (.k 18))] false [6,7,8,9] [6,7,8])
 .ret))⟩

def F_c_ref12_Step : F := ⟨4,[.inr (8,true,1),.inr (9,true,17),.inr (10,true,4),.inl 11],
 (.seq (.reg [.zz 2,.zz 3] [.o 6 (.bx (.k 2)),
 .o 7 (.bx (.k 3)),
 .o 8 (.al ([.l .o 3 []])),
 .o 9 (.al ([.i .i64 0,.i .u64 0,.i .i64 0,.i .i64 0,.i .i64 0,.i .i64 0,.i .i64 0,.i .i64 0,.i .i64 0,.i .i64 0,.b false,.i .i64 0,.i .i64 0,.i .i64 0,.l .o 2 [],.i .i64 0,.l .o 2 []])),
 .o 10 (.al ([.b false,.i .u64 0,.i .i64 0,.i .i64 0])),
 .o 11 (.mv (.c (.b false)))] false [0,1,6,7,8,9,10] [6,7,8,9,10])
 (.seq (.seq (.reg [] [.o 12 (.mv (.k 0))] false [1,6,7,8,9,10,12] [6,7,8,9,10])
 (.blk 0 (.seq (.reg [] [.o 14 (.bin .eql (.t 12) (.c (.i .i64 1))),
 .o 13 (.mv (.k 14))] false [1,6,7,8,9,10,12,13] [6,7,8,9,10])
 (.cond 13 (.seq (.reg [] [.z 15 (.ld true 1 .tk (.k 6)) 2,
 .z 16 (.ld true 17 .tk (.k 7)) 2,
 .o 17 (.mv (.k 1)),
 .o 18 (.call n_c_ref08_Step [.k 15,.k 16,.k 17]),
 .o 19 (.ex false 0 18),
 .o 20 (.ex false 1 18),
 .o 21 (.ex false 2 18),
 .o 22 (.ex false 3 18),
 .s (.st 1 (.t 8) (.k 19)),
 .s (.st 17 (.t 9) (.k 20)),
 .s (.st 4 (.t 10) (.k 21)),
 .o 11 (.mv (.k 22))] false [8,9,10,11] [8,9,10])
 .ret)
 (.seq (.reg [] [.o 24 (.bin .eql (.t 12) (.c (.i .i64 2))),
 .o 23 (.mv (.k 24))] false [1,6,7,8,9,10,12,23] [6,7,8,9,10])
 (.cond 23 (.seq (.reg [] [.z 25 (.ld true 1 .tk (.k 6)) 2,
 .z 26 (.ld true 17 .tk (.k 7)) 2,
 .o 27 (.mv (.k 1)),
 .o 28 (.call n_c_ref09_Step [.k 25,.k 26,.k 27]),
 .o 29 (.ex false 0 28),
 .o 30 (.ex false 1 28),
 .o 31 (.ex false 2 28),
 .o 32 (.ex false 3 28),
 .s (.st 1 (.t 8) (.k 29)),
 .s (.st 17 (.t 9) (.k 30)),
 .s (.st 4 (.t 10) (.k 31)),
 .o 11 (.mv (.k 32))] false [8,9,10,11] [8,9,10])
 .ret)
 (.seq (.reg [] [.o 34 (.bin .eql (.k 12) (.c (.i .i64 3))),
 .o 33 (.mv (.k 34))] false [1,6,7,8,9,10,33] [6,7,8,9,10])
 (.cond 33 (.seq (.reg [] [.z 35 (.ld true 1 .tk (.k 6)) 2,
 .z 36 (.ld true 17 .tk (.k 7)) 2,
 .o 37 (.mv (.k 1)),
 .o 38 (.call n_c_ref07_Step [.k 35,.k 36,.k 37]),
 .o 39 (.ex false 0 38),
 .o 40 (.ex false 1 38),
 .o 41 (.ex false 2 38),
 .o 42 (.ex false 3 38),
 .s (.st 1 (.t 8) (.k 39)),
 .s (.st 17 (.t 9) (.k 40)),
 .s (.st 4 (.t 10) (.k 41)),
 .o 11 (.mv (.k 42))] false [8,9,10,11] [8,9,10])
 .ret)
 .skip))))))))
 (.seq (.reg [] [.z 43 (.ld true 1 .cp (.k 6)) 2,
 .u 44 (.ld true 17 .cp (.k 7)) [0] 2,
 .u 45 (.mv (.k 1)) [0,1] 0,
 .u 46 (.callp n_c_ref10_Count [.c (.i .i64 0),.k 45]) [0,1] 2,
 .o 47 (.call n_c_ref11_Step [.k 43,.k 44,.k 46]),
 .o 48 (.ex false 0 47),
 .u 49 (.ex false 1 47) [5] 0,
 .u 50 (.ex false 2 47) [5,6] 0,
 .u 51 (.ex false 3 47) [5,6,7] 0,
 .s (.st 1 (.t 8) (.k 48)),
 .s (.st 17 (.t 9) (.k 49)),
 .s (.st 4 (.t 10) (.k 50)),
 .o 11 (.mv (.k 51))] true [8,9,10,11] [8,9,10])
 .ret)))⟩

def F_c_law06_Drive : F := ⟨6,[.inr (12,true,4),.inl 13],
 (.seq (.reg [.zz 3,.zz 4] [.o 12 (.al ([.nilp,.l .o 3 [],.l .o 12 [],.i .i64 0])),
 .o 13 (.mv (.c (.b false)))] false [0,1,2,3,4,5,12] [12])
 (.seq (.reg [] [.o 28 (.call n_cell_New []),
 .o 29 (.bd ([.nilp,.l .o 3 [],.l .x 12 [],.i .i64 0]) [(0,1,.k 28)]),
 .o 14 (.al ([.nilp,.l .o 3 [],.l .x 12 [],.i .i64 0])),
 .s (.st 4 (.t 14) (.k 29))] false [0,1,2,3,4,5,12,14] [12,14])
 (.seq (.reg [] [.o 30 (.mv (.t 3)),
 .o 31 (.mv (.k 3)),
 .o 32 (.len false (.k 31)),
 .o 33 (.mx false [.k 32,.c (.i .i64 4)]),
 .o 34 (.sl 1 (.k 30) none (some (.k 33)) none),
 .o 3 (.mv (.k 34))] false [0,1,2,3,4,5,12,14] [12,14])
 (.seq (.reg [] [.o 35 (.mv (.t 3)),
 .o 36 (.len false (.k 35)),
 .o 37 (.ms 1 8 (.i .i64 0) (.t 36) (.t 36)),
 .o 15 (.mv (.k 37))] false [0,1,2,3,4,5,12,14,15] [12,14,15])
 (.seq (.reg [] [.o 38 (.mv (.t 3)),
 .o 39 (.len false (.k 38)),
 .o 40 (.ms 1 8 .nilp (.t 39) (.t 39)),
 .o 16 (.mv (.k 40))] false [0,1,2,3,4,5,12,14,15,16] [12,14,15,16])
 (.seq (.reg [] [.o 41 (.mv (.t 3)),
 .o 42 (.len false (.k 41)),
 .o 43 (.ms 17 168 (.a ([.i .i64 0,.i .u64 0,.i .i64 0,.i .i64 0,.i .i64 0,.i .i64 0,.i .i64 0,.i .i64 0,.i .i64 0,.i .i64 0,.b false,.i .i64 0,.i .i64 0,.i .i64 0,.l .o 2 [],.i .i64 0,.l .o 2 []])) (.t 42) (.t 42)),
 .o 17 (.mv (.k 43))] false [0,1,2,3,4,5,12,14,15,16,17] [12,14,15,16,17])
 (.seq (.reg [] [.o 44 (.mv (.t 3)),
 .o 45 (.len false (.k 44)),
 .o 46 (.ms 1 8 (.i .i64 0) (.t 45) (.t 45)),
 .o 18 (.mv (.k 46))] false [0,1,2,3,4,5,12,14,15,16,17,18] [12,14,15,16,17,18])
 (.seq (.seq (.reg [.thaw 15,.thaw 16,.thaw 17,.thaw 18] [.o 19 (.mv (.c (.i .i64 0)))] false [0,1,2,3,4,5,12,14,15,16,17,18,19] [12,14,15,16,17,18])
 (.blk 0 (.loop (.seq (.seq (.reg [] [.o 47 (.mv (.t 19)),
 .o 48 (.mv (.t 4)),
 .o 49 (.len false (.k 48)),
 .o 50 (.bin .lss (.k 47) (.k 49)),
 .o 51 (.mv (.k 50)),
 .c 51 true 52 (.mv (.t 19)),
 .c 51 true 53 (.bin .lss (.k 52) (.c (.i .i64 200))),
 .o 54 (.pick (.k 51) (.k 53) (.c (.b false)))] false [0,1,2,3,4,5,12,14,15,16,17,18,19,54] [12,14,15,16,17,18])
 (.cond 54 .skip
 (.exit 0)))
 (.seq (.blk 1 (.seq (.reg [] [.o 57 (.mv (.t 4)),
 .o 58 (.mv (.t 19)),
 .o 59 (.ia 1 none (.k 57) (.k 58)),
 .o 60 (.ld false 1 .cp (.k 59)),
 .o 61 (.mv (.t 3)),
 .o 62 (.len false (.k 61)),
 .o 63 (.call n_c_ref06_Into [.k 60,.k 62]),
 .o 20 (.mv (.k 63))] false [0,1,2,3,4,5,12,14,15,16,17,18,19,20] [12,14,15,16,17,18])
 (.seq (.seq (.reg [.thaw 15,.thaw 16] [.o 64 (.mv (.t 20)),
 .u 65 (.mv (.t 3)) [0] 0,
 .u 66 (.len false (.k 65)) [0] 0,
 .o 67 (.bin .geq (.k 64) (.k 66)),
 .o 68 (.mv (.k 67)),
 .c 68 false 69 (.mv (.t 16)),
 ⟨some 70,some (68,false),.mv (.t 20),[5],0⟩,
 .c 68 false 71 (.ia 1 none (.k 69) (.k 70)),
 .c 68 false 72 (.ld false 1 .cp (.k 71)),
 .c 68 false 73 (.eq false .pt (.k 72) (.c (.nilp))),
 .c 68 false 74 (.mv (.k 73)),
 .c 74 true 75 (.mv (.t 15)),
 ⟨some 76,some (74,true),.mv (.t 20),[11],0⟩,
 .c 74 true 77 (.ia 1 none (.k 75) (.k 76)),
 .c 74 true 78 (.ld false 1 .cp (.k 77)),
 ⟨some 79,some (74,true),.mv (.t 3),[11,12,13,14],0⟩,
 ⟨some 80,some (74,true),.mv (.t 20),[11,12,13,14,15],0⟩,
 ⟨some 81,some (74,true),.ia 1 none (.k 79) (.k 80),[11,12,13,14],0⟩,
 ⟨some 82,some (74,true),.ld false 1 .cp (.k 81),[11,12,13,14],0⟩,
 ⟨some 83,some (74,true),.len false (.k 82),[11,12,13,14],0⟩,
 ⟨some 84,some (74,true),.mx false [.k 83,.c (.i .i64 8)],[11,12,13,14],0⟩,
 .c 74 true 85 (.bin .geq (.k 78) (.k 84)),
 .c 68 false 86 (.pick (.t 74) (.k 85) (.c (.b false))),
 .o 87 (.pick (.t 68) (.c (.b true)) (.k 86))] true [0,1,2,3,4,5,12,14,15,16,17,18,19,20,87] [12,14,15,16,17,18])
 (.cond 87 (.exit 1)
 .skip))
 (.seq (.seq (.reg [.thaw 16] [.o 88 (.mv (.t 16)),
 .o 89 (.mv (.t 20)),
 .o 90 (.ia 1 none (.k 88) (.k 89)),
 .o 91 (.ld false 1 .cp (.k 90)),
 .o 92 (.eq false .pt (.k 91) (.c (.nilp)))] false [0,1,2,3,4,5,12,14,15,16,17,18,19,20,92] [12,14,15,16,17,18])
 (.cond 92 (.seq (.reg [.thaw 15] [.o 93 (.mv (.t 3)),
 .u 94 (.mv (.t 20)) [0] 0,
 .o 95 (.ia 1 none (.k 93) (.k 94)),
 .o 96 (.ld false 1 .cp (.k 95)),
 .u 97 (.mv (.t 15)) [0,1,2,3] 0,
 .u 98 (.mv (.t 20)) [0,1,2,3,4] 0,
 .u 99 (.ia 1 none (.k 97) (.k 98)) [0,1,2,3] 0,
 .u 100 (.ld false 1 .cp (.k 99)) [0,1,2,3] 0,
 .o 101 (.ia 5 none (.k 96) (.k 100)),
 .o 102 (.ld true 5 .cp (.k 101)),
 .u 21 (.al ([.i .i64 0,.i .u64 0,.i .i64 0,.i .i64 0,.i .i64 0])) [0,1,2,3,4,5,6,7,8,9] 0,
 .s (.st 5 (.t 21) (.k 102))] true [0,1,2,3,4,5,12,14,15,16,17,18,19,20,21] [12,14,15,16,17,18,21])
 (.seq (.reg [.thaw 15] [.o 103 (.mv (.t 15)),
 .o 104 (.mv (.t 20)),
 .o 105 (.ia 1 none (.t 103) (.t 104)),
 .o 106 (.ld false 1 .cp (.k 105)),
 .o 107 (.bin .add (.k 106) (.c (.i .i64 1))),
 .o 108 (.ia 1 none (.k 103) (.k 104)),
 .s (.st 1 (.k 108) (.k 107))] false [0,1,2,3,4,5,12,14,15,16,17,18,19,20,21] [12,14,15,16,17,18,21])
 (.seq (.reg [.thaw 16,.thaw 17,.thaw 18] [.o 109 (.mv (.t 16)),
 .u 110 (.mv (.t 20)) [0] 0,
 .u 111 (.mv (.t 17)) [0,1] 0,
 .u 112 (.mv (.t 20)) [0,1,2] 0,
 .u 113 (.mv (.t 18)) [0,1,2,3] 0,
 .u 114 (.mv (.t 20)) [0,1,2,3,4] 0,
 .u 115 (.mv (.t 0)) [0,1,2,3,4,5] 0,
 .u 116 (.ld true 5 .cp (.t 21)) [0,1,2,3,4,5,6] 0,
 .u 117 (.callp n_c_law06_Own [.k 115,.k 116]) [0,1,2,3,4,5] 0,
 .u 118 (.bd ([.i .i64 0,.f .f64 0,.i .i64 0,.i .i64 0,.i .i64 0,.i .i64 0,.i .i64 0,.i .i64 0,.i .i64 0,.i .i64 0,.b false,.i .u64 0,.i .i64 0,.l .o 2 [],.i .u64 0,.i .i64 0,.l .o 2 []]) [(0,5,.k 117)]) [0,1,2,3,4,5] 0,
 .u 119 (.bg (.k 118)) [0,1,2,3,4,5] 0,
 .u 120 (.mv (.t 0)) [0,1,2,3,4,5,6,7,8,9,10] 0,
 .u 121 (.ld true 5 .cp (.t 21)) [0,1,2,3,4,5,6,7,8,9,10,11] 0,
 .u 122 (.callp n_c_law06_Told [.k 120,.k 121]) [0,1,2,3,4,5,9,10] 0,
 .u 123 (.fa 2 (.t 14)) [0,1,2,3,4,5,6,7,8,9,10,11,12,13] 0,
 .u 124 (.lda 1 (.k 123)) [0,1,2,3,4,5,6,7,8,9,10,11,12,13] 1,
 .u 125 (.len false (.k 124)) [0,1,2,3,4,5,6,7,8,9,10,11,12,13] 0,
 .u 126 (.ia 1 none (.k 109) (.k 110)) [2,3,4,5,14,15,16] 0,
 ⟨none,none,.st 1 (.k 126) (.k 119),[2,3,4,5,14,15,16],0⟩,
 .u 127 (.ia 17 none (.k 111) (.k 112)) [4,5,14,15,16] 0,
 ⟨none,none,.st 17 (.k 127) (.k 122),[4,5,14,15,16],0⟩,
 .o 128 (.ia 1 none (.k 113) (.k 114)),
 .s (.st 1 (.k 128) (.k 125))] true [0,1,2,3,4,5,12,14,15,16,17,18,19,20,21] [12,14,15,16,17,18,21])
 (.reg [] [.o 129 (.fa 2 (.t 14)),
 .o 130 (.ld false 1 .tk (.k 129)),
 .u 131 (.mv (.t 20)) [0,1] 0,
 .u 132 (.mv (.t 0)) [0,1,2] 0,
 .u 133 (.ld true 5 .cp (.k 21)) [0,1,2,3] 0,
 .u 134 (.callp n_c_law06_Own [.k 132,.k 133]) [0,1,2] 0,
 .u 135 (.fa 3 (.t 14)) [0,1,2,3,4,5] 0,
 .u 136 (.ld false 1 .cp (.k 135)) [0,1,2,3,4,5] 0,
 .u 137 (.bd ([.i .i64 0,.i .i64 0,.f .f64 0,.i .i64 0,.i .i64 0,.i .i64 0,.i .i64 0,.i .i64 0,.b false,.f .f64 0,.i .i64 0,.i .i64 0]) [(0,1,.k 131),(1,5,.k 134),(6,1,.k 136),(7,1,.c (.i .i64 (-1)))]) [0,1] 0,
 .u 138 (.bs 12 1 (.a ([.i .i64 0,.i .i64 0,.f .f64 0,.i .i64 0,.i .i64 0,.i .i64 0,.i .i64 0,.i .i64 0,.b false,.f .f64 0,.i .i64 0,.i .i64 0])) [(0,.k 137)]) [0,1] 0,
 .o 139 (.app 12 96 (.k 130) (.k 138)),
 .o 140 (.fa 2 (.t 14)),
 .s (.st 1 (.k 140) (.k 139))] true [0,1,2,3,4,5,12,14,15,16,17,18,19,20] [12,14,15,16,17,18]))))
 .skip))
 (.seq (.reg [.thaw 16] [.o 142 (.mv (.t 1)),
 .u 143 (.fa 0 (.t 14)) [0] 0,
 .u 144 (.ld false 1 .cp (.k 143)) [0] 0,
 .u 145 (.mv (.t 16)) [0,1,2] 0,
 .u 146 (.mv (.t 20)) [0,1,2,3] 0,
 .u 147 (.ia 1 none (.k 145) (.k 146)) [0,1,2] 0,
 .u 148 (.ld false 1 .cp (.k 147)) [0,1,2] 0,
 .u 149 (.mm "Step" (.t 142)) [1,2,3,4,5,6] 0,
 .u 150 (.nc (.k 149)) [1,2,3,4,5,6] 0,
 .u 151 (.mv (.t 142)) [1,2,3,4,5,6] 0,
 .o 152 (.inv "Step" (.k 151) [.k 144,.k 148]),
 .o 141 (.mv (.k 152)),
 .o 153 (.ex false 0 141),
 .u 154 (.ex false 1 141) [12] 0,
 .u 22 (.al ([.b false,.f .f64 0,.i .i64 0,.i .i64 0])) [0,1,2,3,4,5,6,7,8,9,10,11,12,13] 0,
 ⟨none,none,.st 4 (.t 22) (.k 153),[13],0⟩,
 .o 23 (.mv (.k 154))] true [0,1,2,3,4,5,12,14,15,16,17,18,19,20,22,23] [12,14,15,16,17,18,22])
 (.seq (.reg [.thaw 17] [.o 156 (.mv (.t 2)),
 .u 157 (.fa 1 (.t 14)) [0] 0,
 .u 158 (.ld true 1 .cp (.k 157)) [0] 0,
 .u 159 (.mv (.t 17)) [0,1,2] 0,
 .u 160 (.mv (.t 20)) [0,1,2,3] 0,
 .u 161 (.ia 17 none (.k 159) (.k 160)) [0,1,2] 0,
 .u 162 (.ld true 17 .cp (.k 161)) [0,1,2] 0,
 .o 163 (.callv (.k 156) [.k 158,.k 162]),
 .o 155 (.mv (.k 163)),
 .o 164 (.ex false 0 155),
 .u 165 (.ex false 1 155) [9] 0,
 .u 166 (.ex false 2 155) [9,10] 0,
 .u 167 (.ex false 3 155) [9,10,11] 0,
 .u 24 (.al ([.l .o 3 []])) [0,1,2,3,4,5,6,7,8,9,10,11,12] 0,
 .u 25 (.al ([.i .i64 0,.i .u64 0,.i .i64 0,.i .i64 0,.i .i64 0,.i .i64 0,.i .i64 0,.i .i64 0,.i .i64 0,.i .i64 0,.b false,.i .i64 0,.i .i64 0,.i .i64 0,.l .o 2 [],.i .i64 0,.l .o 2 []])) [0,1,2,3,4,5,6,7,8,9,10,11,12,13] 0,
 .u 26 (.al ([.b false,.i .u64 0,.i .i64 0,.i .i64 0])) [0,1,2,3,4,5,6,7,8,9,10,11,12,13,14] 0,
 ⟨none,none,.st 1 (.t 24) (.k 164),[10,11,12],0⟩,
 ⟨none,none,.st 17 (.t 25) (.k 165),[11,12],0⟩,
 ⟨none,none,.st 4 (.t 26) (.k 166),[12],0⟩,
 .o 27 (.mv (.k 167))] true [0,1,2,3,4,5,12,14,15,16,17,18,19,20,22,23,24,25,26,27] [12,14,15,16,17,18,22,24,25,26])
 (.seq (.reg [.thaw 17] [.o 168 (.mv (.t 17)),
 .u 169 (.mv (.t 20)) [0] 0,
 .u 170 (.ld true 1 .cp (.k 24)) [0,1] 0,
 .u 171 (.ld true 17 .cp (.k 25)) [0,1,2] 0,
 .u 172 (.fa 1 (.t 14)) [0,1,3] 0,
 ⟨none,none,.st 1 (.k 172) (.k 170),[0,1,3],0⟩,
 .o 173 (.ia 17 none (.k 168) (.k 169)),
 .s (.st 17 (.k 173) (.k 171))] true [0,1,2,3,4,5,12,14,15,16,17,18,19,20,22,23,26,27] [12,14,15,16,17,18,22,26])
 (.seq (.seq (.reg [] [.o 174 (.mv (.t 23)),
 .u 175 (.mv (.k 27)) [0] 0,
 .o 176 (.eq true .bo (.k 174) (.k 175)),
 .o 177 (.mv (.k 176)),
 .c 177 false 178 (.ld true 4 .cp (.t 22)),
 ⟨some 179,some (177,false),.ld true 4 .cp (.k 26),[4],0⟩,
 .c 177 false 180 (.call n_c_law06_IsAnswer [.k 178,.k 179]),
 .c 177 false 181 (.bin .neq (.k 180) (.c (.i .i64 0))),
 .o 182 (.pick (.t 177) (.c (.b true)) (.k 181)),
 .o 183 (.mv (.k 182)),
 .c 183 false 184 (.fa 0 (.t 14)),
 .c 183 false 185 (.ld false 1 .cp (.k 184)),
 .c 183 false 186 (.call n_cell_Memory_Clock [.k 185]),
 ⟨some 187,some (183,false),.fa 1 (.t 14),[10,11,12],0⟩,
 ⟨some 188,some (183,false),.fa 0 (.k 187),[10,11,12],0⟩,
 ⟨some 189,some (183,false),.ld false 1 .cp (.k 188),[10,11,12],0⟩,
 ⟨some 190,some (183,false),.len false (.k 189),[10,11,12],0⟩,
 ⟨some 191,some (183,false),.cv (.int .u64) (.k 190),[10,11,12],0⟩,
 .c 183 false 192 (.bin .neq (.k 186) (.k 191)),
 .o 193 (.pick (.t 183) (.c (.b true)) (.k 192))] true [0,1,2,3,4,5,12,14,15,16,17,18,19,20,22,23,193] [12,14,15,16,17,18,22])
 (.cond 193 (.seq (.reg [] [.z 194 (.ld true 4 .tk (.k 14)) 1,
 .s (.st 4 (.t 12) (.k 194)),
 .o 13 (.mv (.c (.b false)))] false [12,13] [12])
 .ret)
 .skip))
 (.seq (.seq (.reg [] [.o 195 (.mv (.t 23))] false [0,1,2,3,4,5,12,14,15,16,17,18,19,20,22,23,195] [12,14,15,16,17,18,22])
 (.cond 195 (.seq (.reg [.thaw 16] [.o 196 (.mv (.t 16)),
 .o 197 (.mv (.t 20)),
 .o 198 (.ia 1 none (.k 196) (.k 197)),
 .s (.st 1 (.k 198) (.c (.nilp)))] false [0,1,2,3,4,5,12,14,15,16,17,18,19,20,22,23] [12,14,15,16,17,18,22])
 (.reg [.thaw 18] [.o 199 (.fa 2 (.t 14)),
 .o 200 (.lda 1 (.k 199)),
 .u 201 (.mv (.t 18)) [0,1] 0,
 .u 202 (.mv (.t 20)) [0,1,2] 0,
 .u 203 (.ia 1 none (.k 201) (.k 202)) [0,1] 0,
 .u 204 (.ld false 1 .cp (.k 203)) [0,1] 0,
 .u 205 (.fa 2 (.t 14)) [0,1,2,3,4,5] 0,
 .u 206 (.lda 1 (.k 205)) [0,1,2,3,4,5] 0,
 .u 207 (.mv (.t 18)) [0,1,2,3,4,5,6,7] 0,
 .u 208 (.mv (.t 20)) [0,1,2,3,4,5,6,7,8] 0,
 .u 209 (.ia 1 none (.k 207) (.k 208)) [0,1,2,3,4,5,6,7] 0,
 .u 210 (.ld false 1 .cp (.k 209)) [0,1,2,3,4,5,6,7] 0,
 .u 211 (.fa 3 (.t 14)) [0,1,2,3,4,5,6,7,8,9,10,11] 0,
 .u 212 (.ld false 1 .cp (.k 211)) [0,1,2,3,4,5,6,7,8,9,10,11] 0,
 .u 213 (.ld true 4 .cp (.k 22)) [0,1,2,3,4,5,6,7,8,9,10,11,12,13] 0,
 .u 214 (.ia 12 none (.k 200) (.k 204)) [6,7,14] 0,
 .u 215 (.fa 7 (.k 214)) [6,7,14] 0,
 ⟨none,none,.st 1 (.k 215) (.k 212),[6,7,14],0⟩,
 .o 216 (.ia 12 none (.k 206) (.k 210)),
 .o 217 (.fa 8 (.k 216)),
 .s (.st 4 (.k 217) (.k 213))] true [0,1,2,3,4,5,12,14,15,16,17,18,19,23] [12,14,15,16,17,18]))
 .skip))
 (.seq (.reg [] [.o 218 (.fa 3 (.t 14)),
 .o 219 (.ld false 1 .cp (.k 218)),
 .o 220 (.bin .add (.k 219) (.c (.i .i64 1))),
 .o 221 (.fa 3 (.t 14)),
 .s (.st 1 (.k 221) (.k 220))] false [0,1,2,3,4,5,12,14,15,16,17,18,19,23] [12,14,15,16,17,18])
 (.seq (.reg [] [.o 222 (.mv (.t 5)),
 .o 223 (.ld true 4 .cp (.t 14)),
 .o 224 (.mv (.k 23)),
 .o 225 (.callv (.k 222) [.k 223,.k 224]),
 .o 226 (.un .not (.k 225))] false [0,1,2,3,4,5,12,14,15,16,17,18,19,226] [12,14,15,16,17,18])
 (.cond 226 (.seq (.reg [] [.z 227 (.ld true 4 .tk (.k 14)) 1,
 .s (.st 4 (.t 12) (.k 227)),
 .o 13 (.mv (.c (.b false)))] false [12,13] [12])
 .ret)
 .skip))))))))))))
 (.reg [] [.o 55 (.mv (.k 19)),
 .o 56 (.bin .add (.k 55) (.c (.i .i64 1))),
 .o 19 (.mv (.k 56))] false [0,1,2,3,4,5,12,14,15,16,17,18,19] [12,14,15,16,17,18]))))))
 (.seq (.reg [.fzo 14] [.z 228 (.ld true 4 .cp (.t 14)) 1,
 .u 229 (.ld true 4 .cp (.t 14)) [0] 2,
 .u 230 (.call n_c_law06_Run_Same [.k 229]) [0] 0,
 .u 231 (.bin .eql (.k 230) (.c (.i .i64 0))) [0] 0,
 ⟨none,none,.st 4 (.t 12) (.k 228),[3],0⟩,
 .o 13 (.mv (.k 231))] true [12,13] [12])
 .ret)))))))))⟩

def F_op_Legal : F := ⟨2,[.inl 4],
 (.seq (.reg [] [.o 4 (.mv (.c (.i .i64 0)))] false [0,1] [])
 (.seq (.blk 0 (.seq (.reg [] [.o 6 (.mv (.t 0)),
 .o 7 (.bin .lss (.k 6) (.c (.i .i64 1))),
 .o 8 (.mv (.k 7)),
 .c 8 false 9 (.mv (.t 0)),
 .c 8 false 10 (.bin .gtr (.k 9) (.c (.i .i64 4))),
 .o 11 (.pick (.k 8) (.c (.b true)) (.k 10)),
 .o 5 (.mv (.k 11))] false [0,1,5] [])
 (.cond 5 (.seq (.reg [] [.o 4 (.mv (.c (.i .i64 6)))] false [4] [])
 .ret)
 (.seq (.reg [] [.o 13 (.mv (.t 1)),
 .o 14 (.bin .lss (.k 13) (.c (.i .i64 1))),
 .o 15 (.mv (.k 14)),
 .c 15 false 16 (.mv (.t 1)),
 .c 15 false 17 (.bin .gtr (.k 16) (.c (.i .i64 16))),
 .o 18 (.pick (.k 15) (.c (.b true)) (.k 17)),
 .o 19 (.mv (.k 18)),
 .c 19 false 20 (.mv (.k 0)),
 .c 19 false 21 (.bin .eql (.k 20) (.c (.i .i64 4))),
 .c 19 false 22 (.mv (.k 21)),
 .c 22 true 23 (.mv (.t 1)),
 .c 22 true 24 (.mv (.k 1)),
 .c 22 true 25 (.bin .sub (.k 24) (.c (.i .i64 1))),
 .c 22 true 26 (.bin .and (.k 23) (.k 25)),
 .c 22 true 27 (.bin .neq (.k 26) (.c (.i .i64 0))),
 .c 19 false 28 (.pick (.k 22) (.k 27) (.c (.b false))),
 .o 29 (.pick (.k 19) (.c (.b true)) (.k 28)),
 .o 12 (.mv (.k 29))] false [12] [])
 (.cond 12 (.seq (.reg [] [.o 4 (.mv (.c (.i .i64 5)))] false [4] [])
 .ret)
 .skip)))))
 (.seq (.reg [] [.o 4 (.mv (.c (.i .i64 0)))] false [4] [])
 .ret)))⟩

def F_value_bag : F := ⟨2,[.inl 4],
 (.seq (.reg [] [.o 4 (.mv (.c (.l .o 2 [])))] false [0,1] [])
 (.seq (.reg [] [.o 5 (.mv (.c (.l .o 2 [])))] false [0,1,5] [])
 (.seq (.seq (.reg [] [.o 7 (.mv (.k 0)),
 .o 8 (.mv (.c (.i .i64 0)))] false [1,5,7,8] [])
 (.blk 0 (.loop (.seq (.reg [] [.o 9 (.bin .lss (.t 8) (.t 7))] false [1,5,7,8,9] [])
 (.seq (.cond 9 .skip
 (.exit 0))
 (.seq (.blk 1 (.seq (.reg [] [.o 10 (.mv (.t 8)),
 .o 6 (.mv (.k 10))] false [1,5,6,7,8] [])
 (.reg [] [.o 11 (.mv (.k 5)),
 .o 12 (.mv (.t 1)),
 .o 13 (.mv (.k 6)),
 .o 14 (.call n_cell_Memory_Read [.k 12,.k 13]),
 .o 15 (.fd true 1 2 (.k 14)),
 .o 16 (.fd false 1 1 (.k 15)),
 .z 17 (.app 2 16 (.k 11) (.k 16)) 1,
 .o 5 (.mv (.k 17))] false [1,5,7,8] [])))
 (.reg [] [.o 18 (.bin .add (.k 8) (.c (.i .i64 1))),
 .o 8 (.mv (.k 18))] false [1,5,7,8] [])))))))
 (.seq (.reg [] [.z 19 (.mv (.k 5)) 2,
 .o 20 (.call n_pile_Sorted [.k 19]),
 .o 4 (.mv (.k 20))] false [4] [])
 .ret))))⟩

def F_value_line : F := ⟨1,[.inl 2],
 (.seq (.reg [] [.o 2 (.mv (.c (.l .o 2 [])))] false [0] [])
 (.seq (.reg [] [.o 3 (.mv (.c (.l .x 3 [])))] false [0,3] [3])
 (.seq (.seq (.reg [] [.o 4 (.mv (.c (.i .i64 2)))] false [0,3,4] [3])
 (.blk 0 (.loop (.seq (.seq (.reg [] [.o 9 (.mv (.t 4)),
 .o 10 (.mv (.t 0)),
 .o 11 (.call n_cell_Memory_Len [.k 10]),
 .o 12 (.bin .lss (.k 9) (.k 11))] false [0,3,4,12] [3])
 (.cond 12 .skip
 (.exit 0)))
 (.seq (.blk 1 (.seq (.reg [] [.o 15 (.mv (.t 0)),
 .o 16 (.mv (.t 4)),
 .o 17 (.call n_cell_Memory_Read [.k 15,.k 16]),
 .o 5 (.al ([.i .u64 0,.i .i64 0,.l .o 2 []])),
 .s (.st 3 (.t 5) (.k 17))] false [0,3,4,5] [3,5])
 (.seq (.reg [] [.o 18 (.fa 1 (.t 5)),
 .o 19 (.fa 0 (.k 18)),
 .o 20 (.ld false 1 .cp (.k 19)),
 .o 21 (.bin .eql (.k 20) (.c (.i .i64 1)))] false [0,3,4,5,21] [3,5])
 (.cond 21 (.reg [.unth 3] [.o 22 (.mv (.k 3)),
 .o 23 (.ld true 3 .tk (.k 5)),
 .o 24 (.bs 3 1 (.a ([.i .u64 0,.i .i64 0,.l .o 2 []])) [(0,.k 23)]),
 .o 25 (.app 3 40 (.k 22) (.k 24)),
 .o 3 (.mv (.k 25))] false [0,3,4] [3])
 .skip))))
 (.reg [] [.o 13 (.mv (.k 4)),
 .o 14 (.bin .add (.k 13) (.c (.i .i64 1))),
 .o 4 (.mv (.k 14))] false [0,3,4] [3]))))))
 (.seq (.reg [.thaw 3] [.z 26 (.mv (.t 3)) 2,
 .o 27 (.srt n_slices_SortFunc_cell_Cell_cell_Cell n_value_line_1 (.k 26))] false [3] [3])
 (.seq (.reg [] [.o 6 (.mv (.c (.l .o 2 [])))] false [3,6] [3])
 (.seq (.seq (.reg [.unth 3] [.z 28 (.mv (.k 3)) 1,
 .o 29 (.len false (.t 28)),
 .o 30 (.mv (.c (.i .i64 0)))] false [6,28,29,30] [])
 (.blk 2 (.loop (.seq (.reg [] [.o 31 (.bin .lss (.t 30) (.t 29))] false [6,28,29,30,31] [])
 (.seq (.cond 31 .skip
 (.exit 2))
 (.seq (.blk 3 (.seq (.reg [] [.o 32 (.ia 3 none (.t 28) (.t 30)),
 .o 33 (.ld true 3 .cp (.k 32)),
 .o 8 (.al ([.i .u64 0,.i .i64 0,.l .o 2 []])),
 .s (.st 3 (.t 8) (.k 33))] false [6,8,28,29,30] [8])
 (.reg [] [.o 34 (.mv (.k 6)),
 .o 35 (.fa 1 (.k 8)),
 .o 36 (.fa 1 (.k 35)),
 .o 37 (.ld false 1 .tk (.k 36)),
 .z 38 (.app 2 16 (.k 34) (.k 37)) 1,
 .o 6 (.mv (.k 38))] false [6,28,29,30] [])))
 (.reg [] [.o 39 (.bin .add (.k 30) (.c (.i .i64 1))),
 .o 30 (.mv (.k 39))] false [6,28,29,30] [])))))))
 (.seq (.reg [] [.o 40 (.mv (.k 6)),
 .o 2 (.mv (.k 40))] false [2] [])
 .ret)))))))⟩

def F_value_sum : F := ⟨3,[.inl 6],
 (.seq (.reg [] [.o 6 (.mv (.c (.i .i64 0)))] false [0,1,2] [])
 (.seq (.reg [] [.o 7 (.mv (.c (.i .i64 0)))] false [0,1,2,7] [])
 (.seq (.seq (.reg [] [.o 9 (.mv (.k 1)),
 .o 10 (.mv (.c (.i .i64 0)))] false [0,2,7,9,10] [])
 (.blk 0 (.loop (.seq (.reg [] [.o 11 (.bin .lss (.t 10) (.t 9))] false [0,2,7,9,10,11] [])
 (.seq (.cond 11 .skip
 (.exit 0))
 (.seq (.blk 1 (.seq (.reg [] [.o 12 (.mv (.t 10)),
 .o 8 (.mv (.k 12))] false [0,2,7,8,9,10] [])
 (.reg [] [.o 13 (.mv (.k 7)),
 .o 14 (.mv (.t 2)),
 .o 15 (.mv (.t 0)),
 .o 16 (.mv (.k 8)),
 .o 17 (.bin .add (.k 15) (.k 16)),
 .o 18 (.call n_cell_Memory_Read [.k 14,.k 17]),
 .o 19 (.fd true 1 2 (.k 18)),
 .o 20 (.fd false 0 1 (.k 19)),
 .o 21 (.bin .add (.k 13) (.k 20)),
 .o 7 (.mv (.k 21))] false [0,2,7,9,10] [])))
 (.reg [] [.o 22 (.bin .add (.k 10) (.c (.i .i64 1))),
 .o 10 (.mv (.k 22))] false [0,2,7,9,10] [])))))))
 (.seq (.reg [] [.o 23 (.mv (.k 7)),
 .o 6 (.mv (.k 23))] false [6] [])
 .ret))))⟩

def F_net_New : F := ⟨1,[.inr (2,true,3),.inl 3],
 (.seq (.reg [] [.o 2 (.al ([.i .i64 0,.l .o 2 [],.l .o 1 []])),
 .o 3 (.mv (.c (.i .i64 0)))] false [0,2] [2])
 (.seq (.reg [] [.o 7 (.mv (.k 0)),
 .o 8 (.call n_wire_Make [.k 7]),
 .o 6 (.mv (.k 8)),
 .o 9 (.ex false 0 6),
 .o 10 (.ex false 1 6),
 .o 4 (.al ([.i .i64 0,.l .o 2 [],.l .o 1 []])),
 .s (.st 3 (.t 4) (.k 9)),
 .o 5 (.mv (.k 10))] false [2,4,5] [2,4])
 (.seq (.reg [] [.o 11 (.ld true 3 .tk (.k 4)),
 .o 12 (.bd ([.i .i64 0,.l .o 2 [],.l .o 1 []]) [(0,3,.k 11)]),
 .o 13 (.mv (.k 5)),
 .s (.st 3 (.t 2) (.k 12)),
 .o 3 (.mv (.k 13))] false [2,3] [2])
 .ret)))⟩

def F_net_Net_Out : F := ⟨2,[.inl 4],
 (.seq (.reg [.zz 0] [.o 2 (.bx (.k 0)),
 .o 4 (.mv (.c (.i .i64 0)))] false [1,2] [2])
 (.seq (.reg [] [.o 5 (.fa 0 (.k 2)),
 .o 6 (.fa 1 (.k 5)),
 .o 7 (.ld false 1 .tk (.k 6)),
 .o 8 (.len false (.k 7)),
 .o 9 (.mv (.k 1)),
 .o 10 (.bin .add (.k 8) (.k 9)),
 .o 4 (.mv (.k 10))] false [4] [])
 .ret))⟩

def F_c_ref08_All : F := ⟨2,[.inl 4],
 (.seq (.reg [.zz 0] [.o 2 (.bx (.k 0)),
 .o 4 (.mv (.c (.l .o 2 [])))] false [1,2] [2])
 (.seq (.reg [] [.z 11 (.bs 2 0 (.a ([.i .u64 0,.i .i64 0])) []) 1,
 .o 5 (.mv (.k 11))] false [1,2,5] [2])
 (.seq (.seq (.reg [] [.o 6 (.mv (.c (.i .i64 0)))] false [1,2,5,6] [2])
 (.blk 0 (.loop (.seq (.seq (.reg [] [.o 12 (.mv (.t 6)),
 .o 13 (.mv (.t 1)),
 .o 14 (.bin .lss (.k 12) (.k 13))] false [1,2,5,6,14] [2])
 (.cond 14 .skip
 (.exit 0)))
 (.seq (.blk 1 (.seq (.reg [] [.z 18 (.ld true 1 .cp (.t 2)) 2,
 .o 19 (.mv (.t 6)),
 .o 20 (.call n_c_ref05_Read [.k 18,.k 19]),
 .o 17 (.mv (.k 20)),
 .o 21 (.ex false 0 17),
 .o 22 (.ex false 1 17),
 .o 8 (.al ([.i .i64 0,.l .o 2 []])),
 .o 7 (.mv (.k 21)),
 .s (.st 2 (.t 8) (.k 22))] false [1,2,5,6,8] [2,8])
 (.seq (.reg [] [.o 23 (.fa 1 (.k 8)),
 .o 24 (.ld false 1 .tk (.k 23)),
 .o 25 (.len false (.t 24)),
 .o 26 (.mv (.c (.i .i64 0)))] false [1,2,5,6,24,25,26] [2])
 (.blk 2 (.loop (.seq (.reg [] [.o 27 (.bin .lss (.t 26) (.t 25))] false [1,2,5,6,24,25,26,27] [2])
 (.seq (.cond 27 .skip
 (.exit 2))
 (.seq (.blk 3 (.seq (.reg [] [.o 28 (.ia 2 none (.t 24) (.t 26)),
 .o 29 (.ld true 2 .cp (.k 28)),
 .o 10 (.al ([.i .u64 0,.i .i64 0])),
 .s (.st 2 (.t 10) (.k 29))] false [1,2,5,6,10,24,25,26] [2,10])
 (.reg [] [.z 30 (.mv (.k 5)) 2,
 .o 31 (.ld true 2 .cp (.k 10)),
 .o 32 (.call n_c_ref04_With [.k 30,.k 31]),
 .o 5 (.mv (.k 32))] false [1,2,5,6,24,25,26] [2])))
 (.reg [] [.o 33 (.bin .add (.k 26) (.c (.i .i64 1))),
 .o 26 (.mv (.k 33))] false [1,2,5,6,24,25,26] [2])))))))))
 (.reg [] [.o 15 (.mv (.k 6)),
 .o 16 (.bin .add (.k 15) (.c (.i .i64 1))),
 .o 6 (.mv (.k 16))] false [1,2,5,6] [2]))))))
 (.seq (.reg [] [.o 34 (.mv (.k 5)),
 .o 4 (.mv (.k 34))] false [4] [])
 .ret))))⟩

def F_c_ref09_All : F := ⟨1,[.inl 2],
 (.seq (.reg [.zz 0] [.o 1 (.bx (.k 0)),
 .o 2 (.mv (.c (.l .o 2 [])))] false [1] [1])
 (.seq (.reg [] [.z 8 (.bs 2 0 (.a ([.i .u64 0,.i .i64 0])) []) 1,
 .o 3 (.mv (.k 8))] false [1,3] [1])
 (.seq (.seq (.reg [] [.o 9 (.fa 0 (.t 1)),
 .o 10 (.ld false 1 .cp (.k 9)),
 .o 11 (.len false (.t 10)),
 .o 12 (.mv (.c (.i .i64 0)))] false [1,3,10,11,12] [1])
 (.blk 0 (.loop (.seq (.reg [] [.o 13 (.bin .lss (.t 12) (.t 11))] false [1,3,10,11,12,13] [1])
 (.seq (.cond 13 .skip
 (.exit 0))
 (.seq (.blk 1 (.seq (.reg [] [.o 14 (.mv (.t 12)),
 .o 15 (.ia 3 none (.t 10) (.t 12)),
 .o 16 (.ld true 3 .cp (.k 15)),
 .o 5 (.al ([.i .i64 0,.i .i64 0,.l .o 2 []])),
 .o 4 (.mv (.k 14)),
 .s (.st 3 (.t 5) (.k 16))] false [1,3,4,5,10,11,12] [1,5])
 (.seq (.reg [] [.z 18 (.ld true 1 .cp (.t 1)) 2,
 .o 19 (.fa 0 (.t 5)),
 .o 20 (.ld false 1 .cp (.k 19)),
 .o 21 (.call n_c_ref05_Read [.k 18,.k 20]),
 .o 17 (.mv (.k 21)),
 .o 22 (.ex false 0 17),
 .o 23 (.ex false 1 17),
 .o 7 (.al ([.i .i64 0,.l .o 2 []])),
 .o 6 (.mv (.k 22)),
 .s (.st 2 (.t 7) (.k 23))] false [1,3,4,5,6,7,10,11,12] [1,5,7])
 (.seq (.reg [] [.o 24 (.fa 0 (.k 5)),
 .o 25 (.ld false 1 .cp (.k 24)),
 .o 26 (.bin .gtr (.k 25) (.c (.i .i64 1))),
 .o 27 (.mv (.k 26)),
 .c 27 true 28 (.mv (.k 6)),
 .c 27 true 29 (.mv (.k 4)),
 .c 27 true 30 (.bin .add (.k 29) (.c (.i .i64 1))),
 .c 27 true 31 (.bin .eql (.k 28) (.k 30)),
 .o 32 (.pick (.k 27) (.k 31) (.c (.b false))),
 .o 33 (.mv (.k 32)),
 .c 33 true 34 (.fa 0 (.t 7)),
 .c 33 true 35 (.ld false 1 .cp (.k 34)),
 .c 33 true 36 (.bin .eql (.k 35) (.c (.i .i64 1))),
 .o 37 (.pick (.k 33) (.k 36) (.c (.b false)))] false [1,3,7,10,11,12,37] [1,7])
 (.cond 37 (.reg [] [.o 38 (.mv (.k 3)),
 .o 39 (.fa 1 (.k 7)),
 .o 40 (.ld false 1 .tk (.k 39)),
 .o 41 (.ia 2 none (.k 40) (.c (.i .i64 0))),
 .o 42 (.ld true 2 .cp (.k 41)),
 .o 43 (.bs 2 1 (.a ([.i .u64 0,.i .i64 0])) [(0,.k 42)]),
 .z 44 (.app 2 16 (.k 38) (.k 43)) 1,
 .o 3 (.mv (.k 44))] false [1,3,10,11,12] [1])
 .skip)))))
 (.reg [] [.o 45 (.bin .add (.k 12) (.c (.i .i64 1))),
 .o 12 (.mv (.k 45))] false [1,3,10,11,12] [1])))))))
 (.seq (.reg [] [.o 46 (.mv (.k 3)),
 .o 2 (.mv (.k 46))] false [2] [])
 .ret))))⟩

def F_c_ref07_Sum : F := ⟨2,[.inl 4],
 (.seq (.reg [.zz 0] [.o 2 (.bx (.k 0)),
 .o 4 (.mv (.c (.i .i64 0)))] false [1,2] [2])
 (.seq (.reg [] [.o 5 (.mv (.c (.i .i64 0)))] false [1,2,5] [2])
 (.seq (.seq (.reg [] [.o 6 (.mv (.c (.i .i64 0)))] false [1,2,5,6] [2])
 (.blk 0 (.loop (.seq (.seq (.reg [] [.o 9 (.mv (.t 6)),
 .o 10 (.mv (.t 1)),
 .o 11 (.bin .lss (.k 9) (.k 10))] false [1,2,5,6,11] [2])
 (.cond 11 .skip
 (.exit 0)))
 (.seq (.blk 1 (.seq (.reg [] [.z 15 (.ld true 1 .cp (.t 2)) 2,
 .o 16 (.mv (.t 6)),
 .o 17 (.call n_c_ref05_Read [.k 15,.k 16]),
 .o 14 (.mv (.k 17)),
 .o 18 (.ex false 0 14),
 .o 19 (.ex false 1 14),
 .o 8 (.al ([.i .i64 0,.l .o 2 []])),
 .o 7 (.mv (.k 18)),
 .s (.st 2 (.t 8) (.k 19))] false [1,2,5,6,8] [2,8])
 (.reg [] [.o 20 (.mv (.k 5)),
 .o 21 (.fa 0 (.k 8)),
 .o 22 (.ld false 1 .cp (.k 21)),
 .o 23 (.bin .add (.k 20) (.k 22)),
 .o 5 (.mv (.k 23))] false [1,2,5,6] [2])))
 (.reg [] [.o 12 (.mv (.k 6)),
 .o 13 (.bin .add (.k 12) (.c (.i .i64 1))),
 .o 6 (.mv (.k 13))] false [1,2,5,6] [2]))))))
 (.seq (.reg [] [.o 24 (.mv (.k 5)),
 .o 4 (.mv (.k 24))] false [4] [])
 .ret))))⟩

def F_c_ref11_Total : F := ⟨2,[.inl 4],
 (.seq (.reg [.zz 0,.zz 1] [.o 2 (.bx (.k 0)),
 .o 3 (.bx (.k 1)),
 .o 4 (.mv (.c (.i .i64 0)))] false [2,3] [2,3])
 (.seq (.reg [] [.o 5 (.mv (.c (.i .i64 0)))] false [2,3,5] [2,3])
 (.seq (.seq (.reg [] [.o 9 (.fa 1 (.t 3)),
 .o 10 (.ld false 1 .cp (.k 9)),
 .o 11 (.len false (.k 10)),
 .o 12 (.mv (.c (.i .i64 0)))] false [2,3,5,11,12] [2,3])
 (.blk 0 (.loop (.seq (.reg [] [.o 13 (.bin .lss (.t 12) (.t 11))] false [2,3,5,11,12,13] [2,3])
 (.seq (.cond 13 .skip
 (.exit 0))
 (.seq (.blk 1 (.seq (.reg [] [.o 14 (.mv (.t 12)),
 .o 6 (.mv (.k 14))] false [2,3,5,6,11,12] [2,3])
 (.seq (.reg [] [.z 16 (.ld true 1 .cp (.t 2)) 2,
 .o 17 (.fa 0 (.t 3)),
 .o 18 (.ld false 1 .cp (.k 17)),
 .o 19 (.len false (.k 18)),
 .o 20 (.bin .quo (.k 19) (.c (.i .i64 2))),
 .o 21 (.mv (.k 6)),
 .o 22 (.bin .add (.k 20) (.k 21)),
 .o 23 (.call n_c_ref05_Read [.k 16,.k 22]),
 .o 15 (.mv (.k 23)),
 .o 24 (.ex false 0 15),
 .o 25 (.ex false 1 15),
 .o 8 (.al ([.i .i64 0,.l .o 2 []])),
 .o 7 (.mv (.k 24)),
 .s (.st 2 (.t 8) (.k 25))] false [2,3,5,8,11,12] [2,3,8])
 (.reg [] [.o 26 (.mv (.k 5)),
 .o 27 (.fa 0 (.k 8)),
 .o 28 (.ld false 1 .cp (.k 27)),
 .o 29 (.bin .add (.k 26) (.k 28)),
 .o 5 (.mv (.k 29))] false [2,3,5,11,12] [2,3]))))
 (.reg [] [.o 30 (.bin .add (.k 12) (.c (.i .i64 1))),
 .o 12 (.mv (.k 30))] false [2,3,5,11,12] [2,3])))))))
 (.seq (.reg [] [.o 31 (.mv (.k 5)),
 .o 4 (.mv (.k 31))] false [4] [])
 .ret))))⟩

def F_c_ref10_Count : F := ⟨2,[.inr (4,true,2)],
 (.seq (.reg [] [.o 4 (.al ([.l .o 1 [],.l .o 1 []]))] false [0,1,4] [4])
 (.seq (.seq (.reg [] [.o 8 (.mv (.t 1)),
 .o 9 (.bin .eql (.k 8) (.c (.i .i64 1)))] false [0,1,4,9] [4])
 (.cond 9 (.seq (.reg [] [.z 10 (.bs 1 0 (.i .i64 0) []) 1,
 .o 11 (.mv (.k 0)),
 .z 12 (.bs 1 1 (.i .i64 0) [(0,.k 11)]) 1,
 .o 13 (.bd ([.l .o 1 [],.l .o 1 []]) [(0,1,.k 10),(1,1,.k 12)]),
 .s (.st 2 (.t 4) (.k 13))] false [4] [4])
 .ret)
 .skip))
 (.seq (.reg [] [.o 14 (.mv (.t 0)),
 .o 15 (.mv (.t 1)),
 .o 16 (.bin .quo (.k 15) (.c (.i .i64 2))),
 .o 17 (.callp n_c_ref10_Count [.k 14,.k 16]),
 .o 5 (.al ([.l .o 1 [],.l .o 1 []])),
 .s (.st 2 (.t 5) (.k 17))] false [0,1,4,5] [4,5])
 (.seq (.reg [] [.o 18 (.mv (.k 0)),
 .o 19 (.mv (.t 1)),
 .o 20 (.bin .quo (.k 19) (.c (.i .i64 2))),
 .o 21 (.bin .add (.k 18) (.k 20)),
 .o 22 (.mv (.k 1)),
 .o 23 (.bin .quo (.k 22) (.c (.i .i64 2))),
 .o 24 (.callp n_c_ref10_Count [.k 21,.k 23]),
 .o 6 (.al ([.l .o 1 [],.l .o 1 []])),
 .s (.st 2 (.t 6) (.k 24))] false [4,5,6] [4,5,6])
 (.seq (.reg [] [.o 25 (.fa 1 (.t 5)),
 .z 26 (.ld false 1 .cp (.k 25)) 2,
 .o 27 (.fa 1 (.t 6)),
 .z 28 (.ld false 1 .cp (.k 27)) 2,
 .o 29 (.call n_c_ref10_Merge [.k 26,.k 28]),
 .o 7 (.al ([.l .o 1 [],.l .o 1 []])),
 .s (.st 2 (.t 7) (.k 29))] false [4,5,6,7] [4,5,6,7])
 (.seq (.reg [] [.z 30 (.bs 1 0 (.i .i64 0) []) 1,
 .u 31 (.fa 0 (.k 5)) [0] 0,
 .u 32 (.ld false 1 .cp (.k 31)) [0] 0,
 .z 33 (.app 1 8 (.k 30) (.k 32)) 1,
 .u 34 (.fa 0 (.k 6)) [0,1,2,3] 0,
 .u 35 (.ld false 1 .cp (.k 34)) [0,1,2,3] 0,
 .z 36 (.app 1 8 (.k 33) (.k 35)) 1,
 .u 37 (.fa 0 (.t 7)) [0,1,2,3,4,5,6] 0,
 .u 38 (.ld false 1 .cp (.k 37)) [0,1,2,3,4,5,6] 0,
 .z 39 (.app 1 8 (.k 36) (.k 38)) 1,
 .u 40 (.fa 1 (.t 7)) [0,1,2,3,4,5,6,7,8,9] 0,
 .u 41 (.ld false 1 .cp (.k 40)) [0,1,2,3,4,5,6,7,8,9] 0,
 .o 42 (.bd ([.l .o 1 [],.l .o 1 []]) [(0,1,.k 39),(1,1,.k 41)]),
 .s (.st 2 (.t 4) (.k 42))] true [4] [4])
 .ret))))))⟩

def F_slices_EqualFunc_pile_Item_pile_Item_pile_Item_pile_Item_1 : F := ⟨3,[.inl 6],
 (.seq (.reg [.zz 0,.zz 1] [.o 6 (.mv (.c (.b false)))] false [0,1,2] [])
 (.seq (.seq (.reg [] [.o 10 (.mv (.t 0)),
 .o 11 (.len false (.k 10)),
 .o 12 (.mv (.t 1)),
 .o 13 (.len false (.k 12)),
 .o 14 (.bin .neq (.k 11) (.k 13))] false [0,1,2,14] [])
 (.cond 14 (.seq (.reg [] [.o 6 (.mv (.c (.b false)))] false [6] [])
 .ret)
 .skip))
 (.seq (.seq (.reg [] [.o 15 (.mv (.k 0)),
 .o 16 (.len false (.t 15)),
 .o 17 (.mv (.c (.i .i64 0)))] false [1,2,15,16,17] [])
 (.blk 0 (.loop (.seq (.reg [] [.o 18 (.bin .lss (.t 17) (.t 16))] false [1,2,15,16,17,18] [])
 (.seq (.cond 18 .skip
 (.exit 0))
 (.seq (.blk 1 (.seq (.reg [] [.o 19 (.mv (.t 17)),
 .o 20 (.ia 2 none (.t 15) (.t 17)),
 .o 21 (.ld true 2 .cp (.k 20)),
 .o 8 (.al ([.f .f64 0,.i .i64 0])),
 .o 7 (.mv (.k 19)),
 .s (.st 2 (.t 8) (.k 21))] false [1,2,7,8,15,16,17] [8])
 (.seq (.reg [] [.o 22 (.mv (.t 1)),
 .o 23 (.mv (.k 7)),
 .o 24 (.ia 2 none (.k 22) (.k 23)),
 .o 25 (.ld true 2 .cp (.k 24)),
 .o 9 (.al ([.f .f64 0,.i .i64 0])),
 .s (.st 2 (.t 9) (.k 25))] false [1,2,8,9,15,16,17] [8,9])
 (.seq (.reg [] [.o 26 (.mv (.t 2)),
 .o 27 (.ld true 2 .cp (.k 8)),
 .o 28 (.ld true 2 .cp (.k 9)),
 .o 29 (.callv (.k 26) [.k 27,.k 28]),
 .o 30 (.un .not (.k 29))] false [1,2,15,16,17,30] [])
 (.cond 30 (.seq (.reg [] [.o 6 (.mv (.c (.b false)))] false [6] [])
 .ret)
 .skip)))))
 (.reg [] [.o 31 (.bin .add (.k 17) (.c (.i .i64 1))),
 .o 17 (.mv (.k 31))] false [1,2,15,16,17] [])))))))
 (.seq (.reg [] [.o 6 (.mv (.c (.b true)))] false [6] [])
 .ret))))⟩

def F_value_Value_Same_1 : F := ⟨2,[.inl 4],
 (.seq (.reg [] [.o 2 (.bx (.k 0)),
 .o 3 (.bx (.k 1)),
 .o 4 (.mv (.c (.b false)))] false [2,3] [2,3])
 (.seq (.reg [] [.o 5 (.ld true 2 .cp (.k 2)),
 .o 6 (.ld true 2 .cp (.k 3)),
 .o 7 (.call n_pile_Item_Cmp [.k 5,.k 6]),
 .o 8 (.bin .eql (.k 7) (.c (.i .i64 0))),
 .o 4 (.mv (.k 8))] false [4] [])
 .ret))⟩

def F_op_Op_Check : F := ⟨2,[.inl 4],
 (.seq (.reg [] [.o 2 (.bx (.k 0)),
 .o 4 (.mv (.c (.i .i64 0)))] false [1,2] [2])
 (.seq (.seq (.reg [] [.o 7 (.mv (.k 1)),
 .o 8 (.call n_op_Of [.k 7]),
 .o 9 (.len false (.t 8)),
 .o 10 (.mv (.c (.i .i64 0)))] false [2,8,9,10] [2])
 (.blk 0 (.loop (.seq (.reg [] [.o 11 (.bin .lss (.t 10) (.t 9))] false [2,8,9,10,11] [2])
 (.seq (.cond 11 .skip
 (.exit 0))
 (.seq (.blk 1 (.seq (.reg [] [.o 12 (.ia 1 none (.t 8) (.t 10)),
 .o 13 (.ld false 1 .cp (.k 12)),
 .o 6 (.mv (.k 13))] false [2,6,8,9,10] [2])
 (.seq (.seq (.reg [] [.o 14 (.mv (.t 6)),
 .o 15 (.fa 0 (.t 2)),
 .o 16 (.ld false 1 .cp (.k 15)),
 .o 17 (.bin .neq (.k 14) (.k 16))] false [2,6,8,9,10,17] [2])
 (.cond 17 (.exit 1)
 .skip))
 (.seq (.seq (.reg [] [.o 18 (.mv (.k 6)),
 .o 19 (.bin .eql (.k 18) (.c (.i .i64 5))),
 .o 20 (.mv (.k 19)),
 .c 20 true 21 (.fa 1 (.t 2)),
 .c 20 true 22 (.fa 1 (.k 21)),
 .c 20 true 23 (.ld false 1 .cp (.k 22)),
 .c 20 true 24 (.bin .lss (.k 23) (.c (.i .i64 0))),
 .c 20 true 25 (.mv (.k 24)),
 .c 25 false 26 (.fa 1 (.k 2)),
 .c 25 false 27 (.fa 1 (.k 26)),
 .c 25 false 28 (.ld false 1 .cp (.k 27)),
 .c 25 false 29 (.bin .gtr (.k 28) (.c (.i .i64 4294967296))),
 .c 20 true 30 (.pick (.k 25) (.c (.b true)) (.k 29)),
 .o 31 (.pick (.k 20) (.k 30) (.c (.b false)))] false [31] [])
 (.cond 31 (.seq (.reg [] [.o 4 (.mv (.c (.i .i64 4)))] false [4] [])
 .ret)
 .skip))
 (.seq (.reg [] [.o 4 (.mv (.c (.i .i64 0)))] false [4] [])
 .ret)))))
 (.reg [] [.o 32 (.bin .add (.k 10) (.c (.i .i64 1))),
 .o 10 (.mv (.k 32))] false [2,8,9,10] [2])))))))
 (.seq (.reg [] [.o 4 (.mv (.c (.i .i64 6)))] false [4] [])
 .ret)))⟩

def F_pile_Item_Canon : F := ⟨1,[.inr (2,true,2)],
 (.seq (.reg [] [.o 1 (.bx (.k 0)),
 .o 2 (.al ([.f .f64 0,.i .i64 0]))] false [1,2] [1,2])
 (.seq (.reg [] [.o 3 (.fa 0 (.t 1)),
 .o 4 (.ld false 1 .cp (.k 3)),
 .o 5 (.call n_real_Canon [.k 4]),
 .u 6 (.fa 1 (.t 1)) [0,1,2] 0,
 .u 7 (.ld false 1 .cp (.k 6)) [0,1,2] 0,
 .o 8 (.bd ([.f .f64 0,.i .i64 0]) [(0,1,.k 5),(1,1,.k 7)]),
 .s (.st 2 (.t 2) (.k 8))] true [2] [2])
 .ret))⟩

def F_value_Value_without : F := ⟨3,[.inr (6,true,3),.inl 7],
 (.seq (.reg [.zz 0] [.o 3 (.bx (.k 0)),
 .o 4 (.bg (.k 1)),
 .o 6 (.al ([.i .i64 0,.l .o 2 [],.i .i64 0])),
 .o 7 (.mv (.c (.b false)))] false [2,3,4,6] [3,6])
 (.seq (.reg [] [.o 9 (.fa 1 (.t 3)),
 .z 10 (.ld false 1 .cp (.k 9)) 2,
 .o 11 (.mf n_value_Value_without_1 [.k 4]),
 .o 12 (.call n_slices_IndexFunc_pile_Item_pile_Item [.k 10,.k 11]),
 .o 8 (.mv (.k 12))] false [2,3,6,8] [3,6])
 (.seq (.seq (.reg [] [.o 13 (.mv (.t 8)),
 .o 14 (.bin .lss (.k 13) (.c (.i .i64 0))),
 .o 15 (.mv (.k 14)),
 .c 15 false 16 (.mv (.t 8)),
 .c 15 false 17 (.mv (.k 2)),
 .c 15 false 18 (.bin .geq (.k 16) (.k 17)),
 .o 19 (.pick (.k 15) (.c (.b true)) (.k 18))] false [3,6,8,19] [3,6])
 (.cond 19 (.seq (.reg [] [.o 20 (.ld true 3 .tk (.k 3)),
 .s (.st 3 (.t 6) (.k 20)),
 .o 7 (.mv (.c (.b false)))] false [6,7] [6])
 .ret)
 .skip))
 (.seq (.reg [] [.o 21 (.fa 1 (.t 3)),
 .z 22 (.ld false 1 .cp (.k 21)) 2,
 .o 23 (.call n_slices_Clone_pile_Item_pile_Item [.k 22]),
 .o 24 (.mv (.t 8)),
 .o 25 (.mv (.k 8)),
 .o 26 (.bin .add (.k 25) (.c (.i .i64 1))),
 .z 27 (.call n_slices_Delete_pile_Item_pile_Item [.k 23,.k 24,.k 26]) 1,
 .o 28 (.fa 1 (.t 3)),
 .s (.st 1 (.k 28) (.k 27))] false [3,6] [3,6])
 (.seq (.reg [] [.o 29 (.ld true 3 .tk (.k 3)),
 .s (.st 3 (.t 6) (.k 29)),
 .o 7 (.mv (.c (.b true)))] false [6,7] [6])
 .ret)))))⟩

def F_c_ref04_Cmp : F := ⟨2,[.inl 4],
 (.seq (.reg [] [.o 2 (.bx (.k 0)),
 .o 3 (.bx (.k 1)),
 .o 4 (.mv (.c (.i .i64 0)))] false [2,3] [2,3])
 (.seq (.reg [] [.o 6 (.fa 0 (.t 2)),
 .o 7 (.ld false 1 .cp (.k 6)),
 .o 8 (.fa 0 (.t 3)),
 .o 9 (.ld false 1 .cp (.k 8)),
 .o 10 (.call n_c_ref03_Cmp [.k 7,.k 9]),
 .o 5 (.mv (.k 10))] false [2,3,5] [2,3])
 (.seq (.seq (.reg [] [.o 11 (.mv (.t 5)),
 .o 12 (.bin .eql (.k 11) (.c (.i .i64 0))),
 .o 13 (.mv (.k 12)),
 .c 13 true 14 (.fa 1 (.t 2)),
 .c 13 true 15 (.ld false 1 .cp (.k 14)),
 .c 13 true 16 (.fa 1 (.t 3)),
 .c 13 true 17 (.ld false 1 .cp (.k 16)),
 .c 13 true 18 (.bin .lss (.k 15) (.k 17)),
 .o 19 (.pick (.k 13) (.k 18) (.c (.b false)))] false [2,3,5,19] [2,3])
 (.cond 19 (.reg [] [.o 5 (.mv (.c (.i .i64 (-1))))] false [2,3,5] [2,3])
 .skip))
 (.seq (.seq (.reg [] [.o 20 (.mv (.t 5)),
 .o 21 (.bin .eql (.k 20) (.c (.i .i64 0))),
 .o 22 (.mv (.k 21)),
 .c 22 true 23 (.fa 1 (.k 2)),
 .c 22 true 24 (.ld false 1 .cp (.k 23)),
 .c 22 true 25 (.fa 1 (.k 3)),
 .c 22 true 26 (.ld false 1 .cp (.k 25)),
 .c 22 true 27 (.bin .gtr (.k 24) (.k 26)),
 .o 28 (.pick (.k 22) (.k 27) (.c (.b false)))] false [5,28] [])
 (.cond 28 (.reg [] [.o 5 (.mv (.c (.i .i64 1)))] false [5] [])
 .skip))
 (.seq (.reg [] [.o 29 (.mv (.k 5)),
 .o 4 (.mv (.k 29))] false [4] [])
 .ret)))))⟩

def F_c_law04_Own : F := ⟨1,[.inr (2,true,2)],
 (.seq (.reg [] [.o 1 (.bx (.k 0)),
 .o 2 (.al ([.f .f64 0,.i .i64 0]))] false [1,2] [1,2])
 (.seq (.reg [] [.o 3 (.fa 0 (.t 1)),
 .o 4 (.ld false 1 .cp (.k 3)),
 .o 5 (.call n_c_law03_F [.k 4]),
 .u 6 (.fa 1 (.t 1)) [0,1,2] 0,
 .u 7 (.ld false 1 .cp (.k 6)) [0,1,2] 0,
 .o 8 (.bd ([.f .f64 0,.i .i64 0]) [(0,1,.k 5),(1,1,.k 7)]),
 .s (.st 2 (.t 2) (.k 8))] true [2] [2])
 .ret))⟩

def F_pile_New : F := ⟨1,[.inl 2],
 (.seq (.reg [.zz 0] [.o 2 (.mv (.c (.nilp)))] false [0] [])
 (.seq (.reg [] [.o 6 (.bd ([.l .x 2 []]) []),
 .o 7 (.bg (.k 6)),
 .o 3 (.mv (.k 7))] false [0,3] [])
 (.seq (.seq (.reg [] [.o 8 (.mv (.k 0)),
 .o 9 (.len false (.t 8)),
 .o 10 (.mv (.c (.i .i64 0)))] false [3,8,9,10] [])
 (.blk 0 (.loop (.seq (.reg [] [.o 11 (.bin .lss (.t 10) (.t 9))] false [3,8,9,10,11] [])
 (.seq (.cond 11 .skip
 (.exit 0))
 (.seq (.blk 1 (.seq (.reg [] [.o 12 (.ia 2 none (.t 8) (.t 10)),
 .o 13 (.ld true 2 .cp (.k 12)),
 .o 5 (.al ([.f .f64 0,.i .i64 0])),
 .s (.st 2 (.t 5) (.k 13))] false [3,5,8,9,10] [5])
 (.reg [] [.o 14 (.mv (.t 3)),
 .u 15 (.mv (.t 3)) [0] 0,
 .u 16 (.nc (.k 15)) [0] 0,
 .u 17 (.fa 0 (.k 16)) [0] 0,
 .u 18 (.ld false 1 .tk (.k 17)) [0] 0,
 .u 19 (.ld true 2 .cp (.k 5)) [0,1,2,3,4] 0,
 .u 20 (.callp n_pile_Item_Canon [.k 19]) [0,1,2,3,4] 0,
 .u 21 (.bs 2 1 (.a ([.f .f64 0,.i .i64 0])) [(0,.k 20)]) [0,1,2,3,4] 0,
 .u 22 (.app 2 16 (.k 18) (.k 21)) [0] 0,
 .o 23 (.nc (.k 14)),
 .o 24 (.fa 0 (.k 23)),
 .s (.st 1 (.k 24) (.k 22))] true [3,8,9,10] [])))
 (.reg [] [.o 25 (.bin .add (.k 10) (.c (.i .i64 1))),
 .o 10 (.mv (.k 25))] false [3,8,9,10] [])))))))
 (.seq (.reg [] [.o 26 (.mv (.t 3)),
 .o 27 (.nc (.k 26)),
 .o 28 (.fa 0 (.k 27)),
 .o 29 (.mi t_pile_items_u (.k 28)),
 .o 30 (.call n_container_heap_Init [.k 29])] false [3] [])
 (.seq (.reg [] [.o 31 (.mv (.k 3)),
 .o 2 (.mv (.k 31))] false [2] [])
 .ret)))))⟩

def F_pile_Pile_All : F := ⟨1,[.inl 2],
 (.seq (.reg [] [.o 2 (.mv (.c (.l .o 2 [])))] false [0] [])
 (.seq (.reg [] [.o 7 (.bs 2 0 (.a ([.f .f64 0,.i .i64 0])) []),
 .o 8 (.mv (.k 0)),
 .o 9 (.nc (.k 8)),
 .o 10 (.fa 0 (.k 9)),
 .z 11 (.lda 1 (.k 10)) 1,
 .o 12 (.app 2 16 (.k 7) (.k 11)),
 .o 13 (.bd ([.l .x 2 []]) [(0,1,.k 12)]),
 .o 14 (.bg (.k 13)),
 .o 3 (.mv (.k 14))] false [3] [])
 (.seq (.reg [] [.o 4 (.mv (.c (.l .o 2 [])))] false [3,4] [])
 (.blk 0 (.loop (.blk 1 (.seq (.reg [] [.o 16 (.mv (.t 3)),
 .o 17 (.call n_pile_Pile_Take [.k 16]),
 .o 15 (.mv (.k 17)),
 .o 18 (.ex false 0 15),
 .o 19 (.ex false 1 15),
 .o 5 (.al ([.f .f64 0,.i .i64 0])),
 .s (.st 2 (.t 5) (.k 18)),
 .o 6 (.mv (.k 19))] false [3,4,5,6] [5])
 (.seq (.seq (.reg [] [.o 20 (.mv (.k 6)),
 .o 21 (.un .not (.k 20))] false [3,4,5,21] [5])
 (.cond 21 (.seq (.reg [] [.o 22 (.mv (.k 4)),
 .o 2 (.mv (.k 22))] false [2] [])
 .ret)
 .skip))
 (.reg [] [.o 23 (.mv (.k 4)),
 .o 24 (.ld true 2 .cp (.k 5)),
 .o 25 (.bs 2 1 (.a ([.f .f64 0,.i .i64 0])) [(0,.k 24)]),
 .z 26 (.app 2 16 (.k 23) (.k 25)) 1,
 .o 4 (.mv (.k 26))] false [3,4] [])))))))))⟩

def F_cell_Memory_Len : F := ⟨1,[.inl 2],
 (.seq (.reg [] [.o 2 (.mv (.c (.i .i64 0)))] false [0] [])
 (.seq (.reg [] [.o 3 (.mv (.k 0)),
 .o 4 (.nc (.k 3)),
 .o 5 (.fa 0 (.k 4)),
 .z 6 (.lda 1 (.k 5)) 1,
 .o 7 (.len false (.k 6)),
 .o 2 (.mv (.k 7))] false [2] [])
 .ret))⟩

def F_c_ref05_Len : F := ⟨1,[.inl 2],
 (.seq (.reg [.zz 0] [.o 1 (.bx (.k 0)),
 .o 2 (.mv (.c (.i .i64 0)))] false [1] [1])
 (.seq (.reg [] [.o 3 (.mv (.c (.i .i64 0)))] false [1,3] [1])
 (.seq (.seq (.reg [] [.o 6 (.fa 0 (.k 1)),
 .o 7 (.ld false 1 .tk (.k 6)),
 .o 8 (.len false (.t 7)),
 .o 9 (.mv (.c (.i .i64 0)))] false [3,7,8,9] [])
 (.blk 0 (.loop (.seq (.reg [] [.o 10 (.bin .lss (.t 9) (.t 8))] false [3,7,8,9,10] [])
 (.seq (.cond 10 .skip
 (.exit 0))
 (.seq (.blk 1 (.seq (.reg [] [.o 11 (.ia 3 none (.t 7) (.t 9)),
 .o 12 (.ld true 3 .cp (.k 11)),
 .o 5 (.al ([.i .i64 0,.i .i64 0,.l .o 2 []])),
 .s (.st 3 (.t 5) (.k 12))] false [3,5,7,8,9] [5])
 (.reg [] [.o 13 (.mv (.k 3)),
 .o 14 (.fa 0 (.k 5)),
 .o 15 (.ld false 1 .cp (.k 14)),
 .o 16 (.bin .add (.k 15) (.c (.i .i64 1))),
 .o 17 (.mx true [.k 13,.k 16]),
 .o 3 (.mv (.k 17))] false [3,7,8,9] [])))
 (.reg [] [.o 18 (.bin .add (.k 9) (.c (.i .i64 1))),
 .o 9 (.mv (.k 18))] false [3,7,8,9] [])))))))
 (.seq (.reg [] [.o 19 (.mv (.k 3)),
 .o 2 (.mv (.k 19))] false [2] [])
 .ret))))⟩

def F_c_ref05_Read : F := ⟨2,[.inl 4,.inr (5,true,2)],
 (.seq (.reg [.zz 0] [.o 2 (.bx (.k 0)),
 .o 4 (.mv (.c (.i .i64 0))),
 .o 5 (.al ([.i .i64 0,.l .o 2 []]))] false [1,2,5] [2,5])
 (.seq (.reg [] [.o 6 (.mv (.c (.i .i64 0)))] false [1,2,5,6] [2,5])
 (.seq (.reg [] [.o 10 (.bd ([.i .i64 0,.l .o 2 []]) []),
 .o 7 (.al ([.i .i64 0,.l .o 2 []])),
 .s (.st 2 (.t 7) (.k 10))] false [1,2,5,6,7] [2,5,7])
 (.seq (.seq (.reg [] [.o 11 (.fa 0 (.k 2)),
 .o 12 (.ld false 1 .tk (.k 11)),
 .o 13 (.len false (.t 12)),
 .o 14 (.mv (.c (.i .i64 0)))] false [1,5,6,7,12,13,14] [5,7])
 (.blk 0 (.loop (.seq (.reg [] [.o 15 (.bin .lss (.t 14) (.t 13))] false [1,5,6,7,12,13,14,15] [5,7])
 (.seq (.cond 15 .skip
 (.exit 0))
 (.seq (.blk 1 (.seq (.reg [] [.o 16 (.mv (.t 14)),
 .o 17 (.ia 3 none (.t 12) (.t 14)),
 .o 18 (.ld true 3 .cp (.k 17)),
 .o 9 (.al ([.i .i64 0,.i .i64 0,.l .o 2 []])),
 .o 8 (.mv (.k 16)),
 .s (.st 3 (.t 9) (.k 18))] false [1,5,6,7,8,9,12,13,14] [5,7,9])
 (.seq (.reg [] [.o 19 (.fa 0 (.t 9)),
 .o 20 (.ld false 1 .cp (.k 19)),
 .o 21 (.mv (.t 1)),
 .o 22 (.bin .eql (.k 20) (.k 21))] false [1,5,6,7,8,9,12,13,14,22] [5,7,9])
 (.cond 22 (.reg [] [.o 23 (.mv (.k 8)),
 .o 24 (.bin .add (.k 23) (.c (.i .i64 1))),
 .u 25 (.fa 1 (.k 9)) [0,1] 0,
 .u 26 (.ld true 2 .cp (.k 25)) [0,1] 0,
 .u 6 (.mv (.k 24)) [2,3] 0,
 .s (.st 2 (.t 7) (.k 26))] true [1,5,6,7,12,13,14] [5,7])
 .skip))))
 (.reg [] [.o 27 (.bin .add (.k 14) (.c (.i .i64 1))),
 .o 14 (.mv (.k 27))] false [1,5,6,7,12,13,14] [5,7])))))))
 (.seq (.reg [] [.o 28 (.mv (.k 6)),
 .u 29 (.ld true 2 .cp (.k 7)) [0] 0,
 .u 4 (.mv (.k 28)) [1] 0,
 .s (.st 2 (.t 5) (.k 29))] true [4,5] [5])
 .ret)))))⟩

def F_cell_Memory_Read : F := ⟨2,[.inr (4,true,3)],
 (.seq (.reg [] [.o 4 (.al ([.i .u64 0,.i .i64 0,.l .o 2 []]))] false [0,1,4] [4])
 (.seq (.seq (.reg [] [.o 6 (.mv (.t 1)),
 .o 7 (.bin .lss (.k 6) (.c (.i .i64 0))),
 .o 8 (.mv (.k 7)),
 .c 8 false 9 (.mv (.t 1)),
 .c 8 false 10 (.mv (.t 0)),
 .c 8 false 11 (.nc (.k 10)),
 .c 8 false 12 (.fa 0 (.k 11)),
 ⟨some 13,some (8,false),.lda 1 (.k 12),[],1⟩,
 .c 8 false 14 (.len false (.k 13)),
 .c 8 false 15 (.bin .geq (.k 9) (.k 14)),
 .o 16 (.pick (.k 8) (.c (.b true)) (.k 15))] false [0,1,4,16] [4])
 (.cond 16 (.seq (.reg [] [.o 17 (.bd ([.i .u64 0,.i .i64 0,.l .o 2 []]) []),
 .s (.st 3 (.t 4) (.k 17))] false [4] [4])
 .ret)
 .skip))
 (.seq (.reg [] [.o 18 (.mv (.k 0)),
 .o 19 (.nc (.k 18)),
 .o 20 (.fa 0 (.k 19)),
 .z 21 (.lda 1 (.k 20)) 1,
 .o 22 (.mv (.k 1)),
 .o 23 (.ia 3 none (.k 21) (.k 22)),
 .o 24 (.ld true 3 .cp (.k 23)),
 .o 5 (.al ([.i .u64 0,.i .i64 0,.l .o 2 []])),
 .s (.st 3 (.t 5) (.k 24))] false [4,5] [4,5])
 (.seq (.reg [] [.o 25 (.fa 0 (.t 5)),
 .o 26 (.ld false 1 .cp (.k 25)),
 .u 27 (.fa 1 (.t 5)) [0,1] 0,
 .u 28 (.ld true 2 .cp (.k 27)) [0,1] 2,
 .u 29 (.call n_cell_Value_Clone [.k 28]) [0,1] 0,
 .o 30 (.bd ([.i .u64 0,.i .i64 0,.l .o 2 []]) [(0,1,.k 26),(1,2,.k 29)]),
 .s (.st 3 (.t 4) (.k 30))] true [4] [4])
 .ret))))⟩

def F_c_law05_Is : F := ⟨2,[.inl 4],
 (.seq (.reg [.zz 0,.zz 1] [.o 2 (.bx (.k 0)),
 .o 3 (.bx (.k 1)),
 .o 4 (.mv (.c (.i .i64 0)))] false [2,3] [2,3])
 (.seq (.seq (.reg [] [.o 5 (.fa 0 (.t 2)),
 .o 6 (.ld false 1 .cp (.k 5)),
 .o 7 (.fa 0 (.t 3)),
 .o 8 (.ld false 1 .cp (.k 7)),
 .o 9 (.bin .neq (.k 6) (.k 8))] false [2,3,9] [2,3])
 (.cond 9 (.seq (.reg [] [.o 4 (.mv (.c (.i .i64 (-1))))] false [4] [])
 .ret)
 .skip))
 (.seq (.reg [] [.o 10 (.fa 1 (.k 2)),
 .z 11 (.ld false 1 .tk (.k 10)) 2,
 .o 12 (.fa 1 (.k 3)),
 .z 13 (.ld false 1 .tk (.k 12)) 2,
 .o 14 (.call n_c_law04_Are [.k 11,.k 13]),
 .o 4 (.mv (.k 14))] false [4] [])
 .ret)))⟩

def F_c_ref06_Of : F := ⟨1,[.inl 2,.inl 3],
 (.seq (.reg [] [.o 2 (.mv (.c (.i .i64 0))),
 .o 3 (.mv (.c (.i .i64 0)))] false [0] [])
 (.seq (.seq (.reg [] [.o 4 (.mv (.k 0))] false [4] [])
 (.blk 0 (.seq (.reg [] [.o 6 (.bin .eql (.t 4) (.c (.i .i64 1))),
 .o 5 (.mv (.k 6))] false [4,5] [])
 (.cond 5 (.seq (.reg [] [.o 2 (.mv (.c (.i .i64 1))),
 .o 3 (.mv (.c (.i .i64 2)))] false [2,3] [])
 .ret)
 (.seq (.reg [] [.o 8 (.bin .eql (.t 4) (.c (.i .i64 2))),
 .o 7 (.mv (.k 8))] false [4,7] [])
 (.cond 7 (.seq (.reg [] [.o 2 (.mv (.c (.i .i64 3))),
 .o 3 (.mv (.c (.i .i64 4)))] false [2,3] [])
 .ret)
 (.seq (.reg [] [.o 10 (.bin .eql (.t 4) (.c (.i .i64 3))),
 .o 9 (.mv (.k 10))] false [4,9] [])
 (.cond 9 (.seq (.reg [] [.o 2 (.mv (.c (.i .i64 5))),
 .o 3 (.mv (.c (.i .i64 6)))] false [2,3] [])
 .ret)
 (.seq (.reg [] [.o 12 (.bin .eql (.k 4) (.c (.i .i64 4))),
 .o 11 (.mv (.k 12))] false [11] [])
 (.cond 11 (.seq (.reg [] [.o 2 (.mv (.c (.i .i64 7))),
 .o 3 (.mv (.c (.i .i64 7)))] false [2,3] [])
 .ret)
 .skip))))))))))
 (.seq (.reg [] [.o 2 (.mv (.c (.i .i64 0))),
 .o 3 (.mv (.c (.i .i64 (-1))))] false [2,3] [])
 .ret)))⟩

def F_c_ref06_Into : F := ⟨2,[.inl 4],
 (.seq (.reg [] [.o 4 (.mv (.c (.i .i64 0)))] false [0,1] [])
 (.seq (.seq (.reg [] [.o 6 (.mv (.t 1)),
 .o 7 (.bin .lss (.k 6) (.c (.i .i64 1)))] false [0,1,7] [])
 (.cond 7 (.seq (.reg [] [.o 4 (.mv (.c (.i .i64 0)))] false [4] [])
 .ret)
 .skip))
 (.seq (.reg [] [.o 8 (.mv (.k 0)),
 .o 9 (.mv (.t 1)),
 .o 10 (.bin .rem (.k 8) (.k 9)),
 .o 5 (.mv (.k 10))] false [1,5] [])
 (.seq (.seq (.reg [] [.o 11 (.mv (.t 5)),
 .o 12 (.bin .lss (.k 11) (.c (.i .i64 0)))] false [1,5,12] [])
 (.cond 12 (.reg [] [.o 13 (.mv (.k 5)),
 .o 14 (.mv (.k 1)),
 .o 15 (.bin .add (.k 13) (.k 14)),
 .o 5 (.mv (.k 15))] false [5] [])
 .skip))
 (.seq (.reg [] [.o 16 (.mv (.k 5)),
 .o 4 (.mv (.k 16))] false [4] [])
 .ret)))))⟩

def F_op_Into : F := ⟨2,[.inl 4],
 (.seq (.reg [] [.o 4 (.mv (.c (.i .i64 0)))] false [0,1] [])
 (.seq (.seq (.reg [] [.o 5 (.mv (.t 1)),
 .o 6 (.bin .leq (.k 5) (.c (.i .i64 0)))] false [0,1,6] [])
 (.cond 6 (.seq (.reg [] [.o 4 (.mv (.c (.i .i64 0)))] false [4] [])
 .ret)
 .skip))
 (.seq (.seq (.reg [] [.o 7 (.mv (.k 0)),
 .o 8 (.mv (.t 1)),
 .o 9 (.bin .rem (.k 7) (.k 8)),
 .o 0 (.mv (.k 9))] false [0,1] [])
 (.seq (.reg [] [.o 10 (.mv (.t 0)),
 .o 11 (.bin .lss (.k 10) (.c (.i .i64 0)))] false [0,1,11] [])
 (.cond 11 (.reg [] [.o 12 (.mv (.k 0)),
 .o 13 (.mv (.k 1)),
 .o 14 (.bin .add (.k 12) (.k 13)),
 .o 0 (.mv (.k 14))] false [0] [])
 .skip)))
 (.seq (.reg [] [.o 15 (.mv (.k 0)),
 .o 4 (.mv (.k 15))] false [4] [])
 .ret))))⟩

def F_real_Cmp : F := ⟨2,[.inl 4],
 (.seq (.reg [] [.o 4 (.mv (.c (.i .i64 0)))] false [0,1] [])
 (.seq (.reg [] [.o 7 (.mv (.k 0)),
 .o 8 (.call n_real_Key [.k 7]),
 .o 9 (.mv (.k 1)),
 .o 10 (.call n_real_Key [.k 9]),
 .o 5 (.mv (.k 8)),
 .o 6 (.mv (.k 10))] false [5,6] [])
 (.seq (.blk 0 (.seq (.reg [] [.o 12 (.mv (.t 5)),
 .o 13 (.mv (.t 6)),
 .o 14 (.bin .lss (.k 12) (.k 13)),
 .o 11 (.mv (.k 14))] false [5,6,11] [])
 (.cond 11 (.seq (.reg [] [.o 4 (.mv (.c (.i .i64 (-1))))] false [4] [])
 .ret)
 (.seq (.reg [] [.o 16 (.mv (.k 5)),
 .o 17 (.mv (.k 6)),
 .o 18 (.bin .gtr (.k 16) (.k 17)),
 .o 15 (.mv (.k 18))] false [15] [])
 (.cond 15 (.seq (.reg [] [.o 4 (.mv (.c (.i .i64 1)))] false [4] [])
 .ret)
 .skip)))))
 (.seq (.reg [] [.o 4 (.mv (.c (.i .i64 0)))] false [4] [])
 .ret))))⟩

def F_c_law04_Is : F := ⟨2,[.inl 4],
 (.seq (.reg [] [.o 2 (.bx (.k 0)),
 .o 3 (.bx (.k 1)),
 .o 4 (.mv (.c (.i .i64 0)))] false [2,3] [2,3])
 (.seq (.seq (.reg [] [.o 5 (.fa 0 (.t 2)),
 .o 6 (.ld false 1 .cp (.k 5)),
 .o 7 (.bits (.k 6)),
 .u 8 (.fa 0 (.t 3)) [0,1,2] 0,
 .u 9 (.ld false 1 .cp (.k 8)) [0,1,2] 0,
 .o 10 (.bin .neq (.k 7) (.k 9)),
 .o 11 (.mv (.k 10)),
 .c 11 false 12 (.fa 1 (.t 2)),
 .c 11 false 13 (.ld false 1 .cp (.k 12)),
 ⟨some 14,some (11,false),.fa 1 (.t 3),[7,8],0⟩,
 ⟨some 15,some (11,false),.ld false 1 .cp (.k 14),[7,8],0⟩,
 .c 11 false 16 (.bin .neq (.k 13) (.k 15)),
 .o 17 (.pick (.t 11) (.c (.b true)) (.k 16))] true [17] [])
 (.cond 17 (.seq (.reg [] [.o 4 (.mv (.c (.i .i64 (-1))))] false [4] [])
 .ret)
 .skip))
 (.seq (.reg [] [.o 4 (.mv (.c (.i .i64 0)))] false [4] [])
 .ret)))⟩

def F_multi_New : F := ⟨1,[.inr (2,true,1),.inl 3],
 (.seq (.reg [] [.o 2 (.al ([.i .i64 0])),
 .o 3 (.mv (.c (.i .i64 0)))] false [0,2] [2])
 (.seq (.seq (.reg [] [.o 5 (.mv (.t 0)),
 .o 6 (.call n_op_Legal [.c (.i .i64 1),.k 5]),
 .o 4 (.mv (.k 6))] false [0,2,4] [2])
 (.seq (.reg [] [.o 7 (.mv (.t 4)),
 .o 8 (.bin .neq (.k 7) (.c (.i .i64 0)))] false [0,2,4,8] [2])
 (.cond 8 (.seq (.reg [] [.o 9 (.bd ([.i .i64 0]) []),
 .o 10 (.mv (.k 4)),
 .s (.st 1 (.t 2) (.k 9)),
 .o 3 (.mv (.k 10))] false [2,3] [2])
 .ret)
 .skip)))
 (.seq (.reg [] [.o 11 (.mv (.k 0)),
 .o 12 (.bd ([.i .i64 0]) [(0,1,.k 11)]),
 .s (.st 1 (.t 2) (.k 12)),
 .o 3 (.mv (.c (.i .i64 0)))] false [2,3] [2])
 .ret)))⟩

def F_kfifo_New : F := ⟨1,[.inr (2,true,1),.inl 3],
 (.seq (.reg [] [.o 2 (.al ([.i .i64 0])),
 .o 3 (.mv (.c (.i .i64 0)))] false [0,2] [2])
 (.seq (.seq (.reg [] [.o 5 (.mv (.t 0)),
 .o 6 (.call n_op_Legal [.c (.i .i64 2),.k 5]),
 .o 4 (.mv (.k 6))] false [0,2,4] [2])
 (.seq (.reg [] [.o 7 (.mv (.t 4)),
 .o 8 (.bin .neq (.k 7) (.c (.i .i64 0)))] false [0,2,4,8] [2])
 (.cond 8 (.seq (.reg [] [.o 9 (.bd ([.i .i64 0]) []),
 .o 10 (.mv (.k 4)),
 .s (.st 1 (.t 2) (.k 9)),
 .o 3 (.mv (.k 10))] false [2,3] [2])
 .ret)
 .skip)))
 (.seq (.reg [] [.o 11 (.mv (.k 0)),
 .o 12 (.bd ([.i .i64 0]) [(0,1,.k 11)]),
 .s (.st 1 (.t 2) (.k 12)),
 .o 3 (.mv (.c (.i .i64 0)))] false [2,3] [2])
 .ret)))⟩

def F_tally_New : F := ⟨1,[.inr (2,true,1),.inl 3],
 (.seq (.reg [] [.o 2 (.al ([.i .i64 0])),
 .o 3 (.mv (.c (.i .i64 0)))] false [0,2] [2])
 (.seq (.seq (.reg [] [.o 5 (.mv (.t 0)),
 .o 6 (.call n_op_Legal [.c (.i .i64 3),.k 5]),
 .o 4 (.mv (.k 6))] false [0,2,4] [2])
 (.seq (.reg [] [.o 7 (.mv (.t 4)),
 .o 8 (.bin .neq (.k 7) (.c (.i .i64 0)))] false [0,2,4,8] [2])
 (.cond 8 (.seq (.reg [] [.o 9 (.bd ([.i .i64 0]) []),
 .o 10 (.mv (.k 4)),
 .s (.st 1 (.t 2) (.k 9)),
 .o 3 (.mv (.k 10))] false [2,3] [2])
 .ret)
 .skip)))
 (.seq (.reg [] [.o 11 (.mv (.k 0)),
 .o 12 (.bd ([.i .i64 0]) [(0,1,.k 11)]),
 .s (.st 1 (.t 2) (.k 12)),
 .o 3 (.mv (.c (.i .i64 0)))] false [2,3] [2])
 .ret)))⟩

def F_c_ref08_Step : F := ⟨3,[.inr (6,true,1),.inr (7,true,17),.inr (8,true,4),.inl 9],
 (.seq (.reg [.zz 0,.zz 1] [.o 3 (.bx (.k 0)),
 .o 4 (.bx (.k 1)),
 .o 6 (.al ([.l .o 3 []])),
 .o 7 (.al ([.i .i64 0,.i .u64 0,.i .i64 0,.i .i64 0,.i .i64 0,.i .i64 0,.i .i64 0,.i .i64 0,.i .i64 0,.i .i64 0,.b false,.i .i64 0,.i .i64 0,.i .i64 0,.l .o 2 [],.i .i64 0,.l .o 2 []])),
 .o 8 (.al ([.b false,.i .u64 0,.i .i64 0,.i .i64 0])),
 .o 9 (.mv (.c (.b false)))] false [2,3,4,6,7,8] [3,4,6,7,8])
 (.seq (.seq (.reg [] [.o 17 (.fa 0 (.t 4)),
 .o 18 (.ld false 1 .cp (.k 17)),
 .o 19 (.bin .eql (.k 18) (.c (.i .i64 1)))] false [2,3,4,6,7,8,19] [3,4,6,7,8])
 (.cond 19 (.seq (.reg [] [.z 20 (.ld true 1 .tk (.k 3)) 2,
 .z 21 (.ld true 17 .tk (.k 4)) 2,
 .o 22 (.mv (.k 2)),
 .o 23 (.call n_c_ref08_insert [.k 20,.k 21,.k 22]),
 .o 24 (.ex false 0 23),
 .o 25 (.ex false 1 23),
 .o 26 (.ex false 2 23),
 .o 27 (.ex false 3 23),
 .s (.st 1 (.t 6) (.k 24)),
 .s (.st 17 (.t 7) (.k 25)),
 .s (.st 4 (.t 8) (.k 26)),
 .o 9 (.mv (.k 27))] false [6,7,8,9] [6,7,8])
 .ret)
 .skip))
 (.seq (.reg [] [.o 28 (.fa 3 (.t 4)),
 .o 29 (.ld false 1 .cp (.k 28)),
 .u 30 (.mv (.t 2)) [0,1] 0,
 .o 31 (.call n_c_ref06_Into [.k 29,.k 30]),
 .u 32 (.fa 4 (.t 4)) [0,1,2,3] 0,
 .u 33 (.ld false 1 .cp (.k 32)) [0,1,2,3] 0,
 .u 34 (.mv (.t 2)) [0,1,2,3,4,5] 0,
 .o 35 (.call n_c_ref06_Into [.k 33,.k 34]),
 .o 10 (.mv (.k 31)),
 .o 11 (.mv (.k 35))] true [3,4,6,7,8,10,11] [3,4,6,7,8])
 (.seq (.seq (.reg [] [.o 36 (.fa 5 (.t 4)),
 .o 37 (.ld false 1 .cp (.k 36))] false [3,4,6,7,8,10,11,37] [3,4,6,7,8])
 (.blk 0 (.seq (.reg [] [.o 39 (.bin .eql (.t 37) (.c (.i .i64 0))),
 .o 38 (.mv (.k 39))] false [3,4,6,7,8,10,11,37,38] [3,4,6,7,8])
 (.cond 38 (.seq (.reg [] [.z 41 (.ld true 1 .cp (.t 3)) 2,
 .o 42 (.mv (.k 10)),
 .o 43 (.call n_c_ref05_Read [.k 41,.k 42]),
 .o 40 (.mv (.k 43)),
 .o 44 (.ex false 0 40),
 .o 45 (.ex false 1 40),
 .o 46 (.fa 11 (.t 4)),
 .s (.st 1 (.k 46) (.k 44)),
 .o 47 (.fa 13 (.t 4)),
 .s (.st 2 (.k 47) (.k 45))] false [3,4,6,7,8] [3,4,6,7,8])
 (.seq (.reg [] [.o 48 (.fa 5 (.t 4)),
 .s (.st 1 (.k 48) (.c (.i .i64 1)))] false [3,4,6,7,8] [3,4,6,7,8])
 (.seq (.reg [] [.o 49 (.ld true 1 .cp (.k 3)),
 .u 50 (.ld true 17 .cp (.k 4)) [0] 0,
 .u 51 (.bd ([.b false,.i .u64 0,.i .i64 0,.i .i64 0]) []) [0,1] 0,
 ⟨none,none,.st 1 (.t 6) (.k 49),[1,2],0⟩,
 ⟨none,none,.st 17 (.t 7) (.k 50),[2],0⟩,
 .s (.st 4 (.t 8) (.k 51)),
 .o 9 (.mv (.c (.b false)))] true [6,7,8,9] [6,7,8])
 .ret)))
 (.seq (.reg [] [.o 53 (.bin .eql (.k 37) (.c (.i .i64 1))),
 .o 52 (.mv (.k 53))] false [3,4,6,7,8,10,11,52] [3,4,6,7,8])
 (.cond 52 (.seq (.reg [] [.z 55 (.ld true 1 .cp (.t 3)) 2,
 .o 56 (.mv (.k 11)),
 .o 57 (.call n_c_ref05_Read [.k 55,.k 56]),
 .o 54 (.mv (.k 57)),
 .o 58 (.ex false 0 54),
 .o 59 (.ex false 1 54),
 .o 60 (.fa 12 (.t 4)),
 .s (.st 1 (.k 60) (.k 58)),
 .o 61 (.fa 15 (.t 4)),
 .s (.st 2 (.k 61) (.k 59))] false [3,4,6,7,8] [3,4,6,7,8])
 (.seq (.reg [] [.o 62 (.fa 5 (.t 4)),
 .s (.st 1 (.k 62) (.c (.i .i64 2)))] false [3,4,6,7,8] [3,4,6,7,8])
 (.seq (.reg [] [.o 63 (.ld true 1 .cp (.k 3)),
 .u 64 (.ld true 17 .cp (.t 4)) [0] 0,
 .u 65 (.bd ([.b false,.i .u64 0,.i .i64 0,.i .i64 0]) []) [0,1] 0,
 .u 66 (.fa 13 (.t 4)) [0,1,2] 0,
 .u 67 (.fa 1 (.k 66)) [0,1,2] 0,
 .u 68 (.ld false 1 .cp (.k 67)) [0,1,2] 0,
 .u 69 (.len false (.k 68)) [0,1,2] 0,
 .u 70 (.fa 15 (.t 4)) [0,1,2,3,4,5,6] 0,
 .u 71 (.fa 1 (.k 70)) [0,1,2,3,4,5,6] 0,
 .u 72 (.ld false 1 .cp (.k 71)) [0,1,2,3,4,5,6] 0,
 .u 73 (.len false (.k 72)) [0,1,2,3,4,5,6] 0,
 .u 74 (.bin .add (.k 69) (.k 73)) [0,1,2] 0,
 .u 75 (.bin .eql (.k 74) (.c (.i .i64 0))) [0,1,2] 0,
 ⟨none,none,.st 1 (.t 6) (.k 63),[1,2,3,4,5,6,7,8,9,10,11,12],0⟩,
 ⟨none,none,.st 17 (.t 7) (.k 64),[2,3,4,5,6,7,8,9,10,11,12],0⟩,
 ⟨none,none,.st 4 (.t 8) (.k 65),[3,4,5,6,7,8,9,10,11,12],0⟩,
 .o 9 (.mv (.k 75))] true [6,7,8,9] [6,7,8])
 .ret)))
 .skip))))))
 (.seq (.reg [] [.o 76 (.fa 5 (.t 4)),
 .s (.st 1 (.k 76) (.c (.i .i64 0)))] false [3,4,6,7,8,10,11] [3,4,6,7,8])
 (.seq (.reg [] [.o 77 (.mv (.k 10)),
 .u 78 (.fa 11 (.t 4)) [0] 0,
 .u 79 (.ld false 1 .cp (.k 78)) [0] 0,
 .u 80 (.fa 13 (.t 4)) [0,1,2] 0,
 .u 81 (.fa 1 (.k 80)) [0,1,2] 0,
 .u 82 (.ld false 1 .cp (.k 81)) [0,1,2] 0,
 .u 12 (.mv (.k 77)) [1,2,3,4,5] 0,
 .u 13 (.mv (.k 79)) [3,4,5] 0,
 .o 14 (.mv (.k 82))] true [3,4,6,7,8,11,12,13,14] [3,4,6,7,8])
 (.seq (.seq (.reg [] [.o 83 (.mv (.t 14)),
 .o 84 (.len false (.k 83)),
 .o 85 (.bin .eql (.k 84) (.c (.i .i64 0))),
 .o 86 (.mv (.k 85)),
 .c 86 false 87 (.fa 15 (.t 4)),
 .c 86 false 88 (.fa 1 (.k 87)),
 .c 86 false 89 (.ld false 1 .cp (.k 88)),
 .c 86 false 90 (.len false (.k 89)),
 .c 86 false 91 (.bin .gtr (.k 90) (.c (.i .i64 0))),
 .c 86 false 92 (.mv (.k 91)),
 .c 92 true 93 (.fa 15 (.t 4)),
 .c 92 true 94 (.fa 1 (.k 93)),
 .c 92 true 95 (.ld false 1 .cp (.k 94)),
 .c 92 true 96 (.ia 2 none (.k 95) (.c (.i .i64 0))),
 .c 92 true 97 (.ld true 2 .cp (.k 96)),
 ⟨some 98,some (92,true),.mv (.t 14),[10,11,12,13,14],0⟩,
 ⟨some 99,some (92,true),.ia 2 none (.k 98) (.c (.i .i64 0)),[10,11,12,13,14],0⟩,
 ⟨some 100,some (92,true),.ld true 2 .cp (.k 99),[10,11,12,13,14],0⟩,
 .c 92 true 101 (.call n_c_ref04_Cmp [.k 97,.k 100]),
 .c 92 true 102 (.bin .lss (.k 101) (.c (.i .i64 0))),
 .c 86 false 103 (.pick (.t 92) (.k 102) (.c (.b false))),
 .o 104 (.pick (.t 86) (.c (.b true)) (.k 103))] true [3,4,6,7,8,11,12,13,14,104] [3,4,6,7,8])
 (.cond 104 (.reg [] [.o 105 (.mv (.k 11)),
 .u 106 (.fa 12 (.t 4)) [0] 0,
 .u 107 (.ld false 1 .cp (.k 106)) [0] 0,
 .u 108 (.fa 15 (.t 4)) [0,1,2] 0,
 .u 109 (.fa 1 (.k 108)) [0,1,2] 0,
 .u 110 (.ld false 1 .cp (.k 109)) [0,1,2] 0,
 .u 12 (.mv (.k 105)) [1,2,3,4,5] 0,
 .u 13 (.mv (.k 107)) [3,4,5] 0,
 .o 14 (.mv (.k 110))] true [3,4,6,7,8,12,13,14] [3,4,6,7,8])
 .skip))
 (.seq (.reg [] [.z 112 (.ld true 1 .cp (.t 3)) 2,
 .u 113 (.mv (.k 12)) [0] 0,
 .u 114 (.mv (.k 13)) [0,1] 0,
 .u 115 (.mv (.t 14)) [0,1,2] 0,
 .u 116 (.sl 2 (.k 115) (some (.c (.i .i64 1))) none none) [0,1,2] 0,
 .u 117 (.bd ([.i .i64 0,.l .o 2 []]) [(1,1,.k 116)]) [0,1,2] 2,
 .o 118 (.call n_c_ref05_Write [.k 112,.k 113,.k 114,.k 117]),
 .o 111 (.mv (.k 118)),
 .o 119 (.ex false 0 111),
 .u 120 (.ex false 1 111) [8] 0,
 .u 15 (.al ([.l .o 3 []])) [0,1,2,3,4,5,6,7,8,9] 0,
 ⟨none,none,.st 1 (.t 15) (.k 119),[9],0⟩,
 .o 16 (.mv (.k 120))] true [3,4,6,7,8,14,15,16] [3,4,6,7,8,15])
 (.seq (.seq (.reg [] [.o 121 (.mv (.k 16)),
 .o 122 (.un .not (.k 121))] false [3,4,6,7,8,14,15,122] [3,4,6,7,8,15])
 (.cond 122 (.seq (.reg [] [.o 123 (.ld true 1 .cp (.k 3)),
 .u 124 (.ld true 17 .cp (.k 4)) [0] 0,
 .u 125 (.bd ([.b false,.i .u64 0,.i .i64 0,.i .i64 0]) []) [0,1] 0,
 ⟨none,none,.st 1 (.t 6) (.k 123),[1,2],0⟩,
 ⟨none,none,.st 17 (.t 7) (.k 124),[2],0⟩,
 .s (.st 4 (.t 8) (.k 125)),
 .o 9 (.mv (.c (.b false)))] true [6,7,8,9] [6,7,8])
 .ret)
 .skip))
 (.seq (.reg [] [.o 126 (.ld true 1 .cp (.k 15)),
 .u 127 (.ld true 17 .cp (.k 4)) [0] 0,
 .u 128 (.mv (.k 14)) [0,1] 0,
 .u 129 (.ia 2 none (.k 128) (.c (.i .i64 0))) [0,1] 0,
 .u 130 (.ld true 2 .cp (.k 129)) [0,1] 0,
 .u 131 (.bd ([.b false,.i .u64 0,.i .i64 0,.i .i64 0]) [(0,1,.c (.b true)),(1,2,.k 130)]) [0,1] 0,
 ⟨none,none,.st 1 (.t 6) (.k 126),[1,2,3,4,5],0⟩,
 ⟨none,none,.st 17 (.t 7) (.k 127),[2,3,4,5],0⟩,
 .s (.st 4 (.t 8) (.k 131)),
 .o 9 (.mv (.c (.b true)))] true [6,7,8,9] [6,7,8])
 .ret))))))))))⟩

def F_c_ref09_Step : F := ⟨3,[.inr (6,true,1),.inr (7,true,17),.inr (8,true,4),.inl 9],
 (.seq (.reg [.zz 0,.zz 1] [.o 3 (.bx (.k 0)),
 .o 4 (.bx (.k 1)),
 .o 6 (.al ([.l .o 3 []])),
 .o 7 (.al ([.i .i64 0,.i .u64 0,.i .i64 0,.i .i64 0,.i .i64 0,.i .i64 0,.i .i64 0,.i .i64 0,.i .i64 0,.i .i64 0,.b false,.i .i64 0,.i .i64 0,.i .i64 0,.l .o 2 [],.i .i64 0,.l .o 2 []])),
 .o 8 (.al ([.b false,.i .u64 0,.i .i64 0,.i .i64 0])),
 .o 9 (.mv (.c (.b false)))] false [2,3,4,6,7,8] [3,4,6,7,8])
 (.seq (.seq (.reg [] [.o 16 (.fa 0 (.t 4)),
 .o 17 (.ld false 1 .cp (.k 16)),
 .o 18 (.bin .eql (.k 17) (.c (.i .i64 3)))] false [2,3,4,6,7,8,18] [3,4,6,7,8])
 (.cond 18 (.seq (.reg [] [.z 19 (.ld true 1 .tk (.k 3)) 2,
 .z 20 (.ld true 17 .tk (.k 4)) 2,
 .o 21 (.mv (.k 2)),
 .o 22 (.call n_c_ref09_enq [.k 19,.k 20,.k 21]),
 .o 23 (.ex false 0 22),
 .o 24 (.ex false 1 22),
 .o 25 (.ex false 2 22),
 .o 26 (.ex false 3 22),
 .s (.st 1 (.t 6) (.k 23)),
 .s (.st 17 (.t 7) (.k 24)),
 .s (.st 4 (.t 8) (.k 25)),
 .o 9 (.mv (.k 26))] false [6,7,8,9] [6,7,8])
 .ret)
 .skip))
 (.seq (.seq (.reg [] [.o 27 (.fa 5 (.t 4)),
 .o 28 (.ld false 1 .cp (.k 27))] false [2,3,4,6,7,8,28] [3,4,6,7,8])
 (.blk 0 (.seq (.reg [] [.o 30 (.bin .eql (.t 28) (.c (.i .i64 0))),
 .o 29 (.mv (.k 30))] false [2,3,4,6,7,8,28,29] [3,4,6,7,8])
 (.cond 29 (.seq (.reg [] [.z 32 (.ld true 1 .cp (.t 3)) 2,
 .o 33 (.call n_c_ref05_Read [.k 32,.c (.i .i64 0)]),
 .o 31 (.mv (.k 33)),
 .o 34 (.ex false 0 31),
 .o 35 (.ex false 1 31),
 .o 36 (.fa 11 (.t 4)),
 .s (.st 1 (.k 36) (.k 34)),
 .o 37 (.fa 13 (.t 4)),
 .s (.st 2 (.k 37) (.k 35))] false [3,4,6,7,8] [3,4,6,7,8])
 (.seq (.reg [] [.o 38 (.fa 13 (.t 4)),
 .o 39 (.fa 0 (.k 38)),
 .o 40 (.ld false 1 .cp (.k 39)),
 .o 41 (.fa 8 (.t 4)),
 .s (.st 1 (.k 41) (.k 40)),
 .o 42 (.fa 5 (.t 4)),
 .s (.st 1 (.k 42) (.c (.i .i64 1)))] false [3,4,6,7,8] [3,4,6,7,8])
 (.seq (.reg [] [.o 43 (.ld true 1 .cp (.k 3)),
 .u 44 (.ld true 17 .cp (.k 4)) [0] 0,
 .u 45 (.bd ([.b false,.i .u64 0,.i .i64 0,.i .i64 0]) []) [0,1] 0,
 ⟨none,none,.st 1 (.t 6) (.k 43),[1,2],0⟩,
 ⟨none,none,.st 17 (.t 7) (.k 44),[2],0⟩,
 .s (.st 4 (.t 8) (.k 45)),
 .o 9 (.mv (.c (.b false)))] true [6,7,8,9] [6,7,8])
 .ret)))
 (.seq (.reg [] [.o 47 (.bin .eql (.t 28) (.c (.i .i64 1))),
 .o 46 (.mv (.k 47))] false [2,3,4,6,7,8,28,46] [3,4,6,7,8])
 (.cond 46 (.seq (.reg [] [.z 49 (.ld true 1 .cp (.t 3)) 2,
 .o 50 (.call n_c_ref05_Read [.k 49,.c (.i .i64 1)]),
 .o 48 (.mv (.k 50)),
 .o 51 (.ex false 0 48),
 .o 52 (.ex false 1 48),
 .o 53 (.fa 12 (.t 4)),
 .s (.st 1 (.k 53) (.k 51)),
 .o 54 (.fa 15 (.t 4)),
 .s (.st 2 (.k 54) (.k 52))] false [2,3,4,6,7,8] [3,4,6,7,8])
 (.seq (.reg [] [.o 55 (.fa 3 (.t 4)),
 .o 56 (.ld false 1 .cp (.k 55)),
 .o 57 (.mv (.k 2)),
 .o 58 (.call n_c_ref06_Into [.k 56,.k 57]),
 .o 59 (.fa 6 (.t 4)),
 .s (.st 1 (.k 59) (.k 58)),
 .o 60 (.fa 7 (.t 4)),
 .s (.st 1 (.k 60) (.c (.i .i64 0))),
 .o 61 (.fa 10 (.t 4)),
 .s (.st 1 (.k 61) (.c (.b false))),
 .o 62 (.fa 5 (.t 4)),
 .s (.st 1 (.k 62) (.c (.i .i64 2)))] false [3,4,6,7,8] [3,4,6,7,8])
 (.seq (.reg [] [.o 63 (.ld true 1 .cp (.k 3)),
 .u 64 (.ld true 17 .cp (.k 4)) [0] 0,
 .u 65 (.bd ([.b false,.i .u64 0,.i .i64 0,.i .i64 0]) []) [0,1] 0,
 ⟨none,none,.st 1 (.t 6) (.k 63),[1,2],0⟩,
 ⟨none,none,.st 17 (.t 7) (.k 64),[2],0⟩,
 .s (.st 4 (.t 8) (.k 65)),
 .o 9 (.mv (.c (.b false)))] true [6,7,8,9] [6,7,8])
 .ret)))
 (.seq (.reg [] [.o 67 (.bin .eql (.t 28) (.c (.i .i64 2))),
 .o 66 (.mv (.k 67))] false [2,3,4,6,7,8,28,66] [3,4,6,7,8])
 (.cond 66 (.seq (.reg [] [.z 68 (.ld true 1 .tk (.k 3)) 2,
 .z 69 (.ld true 17 .tk (.k 4)) 2,
 .o 70 (.mv (.k 2)),
 .o 71 (.call n_c_ref09_look [.k 68,.k 69,.k 70]),
 .o 72 (.ex false 0 71),
 .o 73 (.ex false 1 71),
 .o 74 (.ex false 2 71),
 .o 75 (.ex false 3 71),
 .s (.st 1 (.t 6) (.k 72)),
 .s (.st 17 (.t 7) (.k 73)),
 .s (.st 4 (.t 8) (.k 74)),
 .o 9 (.mv (.k 75))] false [6,7,8,9] [6,7,8])
 .ret)
 (.seq (.reg [] [.o 77 (.bin .eql (.t 28) (.c (.i .i64 3))),
 .o 76 (.mv (.k 77))] false [2,3,4,6,7,8,28,76] [3,4,6,7,8])
 (.cond 76 (.seq (.reg [] [.z 79 (.ld true 1 .cp (.k 3)) 2,
 .u 80 (.ld true 17 .cp (.t 4)) [0] 2,
 .u 81 (.mv (.k 2)) [0,1] 0,
 .u 82 (.call n_c_ref09_slot [.k 80,.k 81]) [0] 0,
 .u 83 (.fa 12 (.t 4)) [0,1,2,3] 0,
 .u 84 (.ld false 1 .cp (.k 83)) [0,1,2,3] 0,
 .u 85 (.bd ([.i .i64 0,.l .o 2 []]) [(0,1,.c (.i .i64 2))]) [0,1,2,3,4,5] 2,
 .o 86 (.call n_c_ref05_Write [.k 79,.k 82,.k 84,.k 85]),
 .o 78 (.mv (.k 86)),
 .o 87 (.ex false 0 78),
 .u 88 (.ex false 1 78) [9] 0,
 .u 10 (.al ([.l .o 3 []])) [0,1,2,3,4,5,6,7,8,9,10] 0,
 ⟨none,none,.st 1 (.t 10) (.k 87),[10],0⟩,
 .o 11 (.mv (.k 88))] true [4,6,7,8,10,11] [4,6,7,8,10])
 (.seq (.seq (.reg [] [.o 89 (.mv (.k 11))] false [4,6,7,8,10,89] [4,6,7,8,10])
 (.cond 89 (.seq (.reg [] [.o 90 (.ld true 1 .cp (.k 10)),
 .u 91 (.ld true 17 .cp (.t 4)) [0] 0,
 .u 92 (.fa 15 (.t 4)) [0,1] 0,
 .u 93 (.fa 1 (.k 92)) [0,1] 0,
 .u 94 (.ld false 1 .cp (.k 93)) [0,1] 0,
 .u 95 (.ia 2 none (.k 94) (.c (.i .i64 0))) [0,1] 0,
 .u 96 (.ld true 2 .cp (.k 95)) [0,1] 0,
 .u 97 (.bd ([.b false,.i .u64 0,.i .i64 0,.i .i64 0]) [(0,1,.c (.b true)),(1,2,.k 96)]) [0,1] 0,
 ⟨none,none,.st 1 (.t 6) (.k 90),[1,2,3,4,5,6,7],0⟩,
 ⟨none,none,.st 17 (.t 7) (.k 91),[2,3,4,5,6,7],0⟩,
 .s (.st 4 (.t 8) (.k 97)),
 .o 9 (.mv (.c (.b true)))] true [6,7,8,9] [6,7,8])
 .ret)
 .skip))
 (.seq (.reg [] [.z 98 (.ld true 1 .tk (.k 10)) 2,
 .z 99 (.ld true 17 .tk (.k 4)) 2,
 .o 100 (.call n_c_ref09_again [.k 98,.k 99]),
 .o 101 (.ex false 0 100),
 .o 102 (.ex false 1 100),
 .o 103 (.ex false 2 100),
 .o 104 (.ex false 3 100),
 .s (.st 1 (.t 6) (.k 101)),
 .s (.st 17 (.t 7) (.k 102)),
 .s (.st 4 (.t 8) (.k 103)),
 .o 9 (.mv (.k 104))] false [6,7,8,9] [6,7,8])
 .ret)))
 (.seq (.reg [] [.o 106 (.bin .eql (.k 28) (.c (.i .i64 4))),
 .o 105 (.mv (.k 106))] false [3,4,6,7,8,105] [3,4,6,7,8])
 (.cond 105 (.seq (.reg [] [.z 108 (.ld true 1 .tk (.k 3)) 2,
 .o 109 (.fa 12 (.t 4)),
 .o 110 (.ld false 1 .cp (.k 109)),
 .o 111 (.fa 8 (.t 4)),
 .o 112 (.ld false 1 .cp (.k 111)),
 .o 113 (.bin .add (.k 112) (.c (.i .i64 1))),
 .z 114 (.bd ([.i .i64 0,.l .o 2 []]) [(0,1,.k 113)]) 2,
 .o 115 (.call n_c_ref05_Write [.k 108,.c (.i .i64 1),.k 110,.k 114]),
 .o 107 (.mv (.k 115)),
 .o 116 (.ex false 0 107),
 .o 117 (.ex false 1 107),
 .o 12 (.al ([.l .o 3 []])),
 .s (.st 1 (.t 12) (.k 116)),
 .o 13 (.mv (.k 117))] false [4,6,7,8,12] [4,6,7,8,12])
 (.seq (.reg [] [.z 118 (.ld true 1 .tk (.k 12)) 2,
 .z 119 (.ld true 17 .tk (.k 4)) 2,
 .o 120 (.call n_c_ref09_again [.k 118,.k 119]),
 .o 121 (.ex false 0 120),
 .o 122 (.ex false 1 120),
 .o 123 (.ex false 2 120),
 .o 124 (.ex false 3 120),
 .s (.st 1 (.t 6) (.k 121)),
 .s (.st 17 (.t 7) (.k 122)),
 .s (.st 4 (.t 8) (.k 123)),
 .o 9 (.mv (.k 124))] false [6,7,8,9] [6,7,8])
 .ret))
 .skip))))))))))))
 (.seq (.reg [] [.z 126 (.ld true 1 .tk (.k 3)) 2,
 .o 127 (.fa 11 (.t 4)),
 .o 128 (.ld false 1 .cp (.k 127)),
 .o 129 (.fa 8 (.t 4)),
 .o 130 (.ld false 1 .cp (.k 129)),
 .o 131 (.bin .add (.k 130) (.c (.i .i64 1))),
 .z 132 (.bd ([.i .i64 0,.l .o 2 []]) [(0,1,.k 131)]) 2,
 .o 133 (.call n_c_ref05_Write [.k 126,.c (.i .i64 0),.k 128,.k 132]),
 .o 125 (.mv (.k 133)),
 .o 134 (.ex false 0 125),
 .o 135 (.ex false 1 125),
 .o 14 (.al ([.l .o 3 []])),
 .s (.st 1 (.t 14) (.k 134)),
 .o 15 (.mv (.k 135))] false [4,6,7,8,14] [4,6,7,8,14])
 (.seq (.reg [] [.z 136 (.ld true 1 .tk (.k 14)) 2,
 .z 137 (.ld true 17 .tk (.k 4)) 2,
 .o 138 (.call n_c_ref09_again [.k 136,.k 137]),
 .o 139 (.ex false 0 138),
 .o 140 (.ex false 1 138),
 .o 141 (.ex false 2 138),
 .o 142 (.ex false 3 138),
 .s (.st 1 (.t 6) (.k 139)),
 .s (.st 17 (.t 7) (.k 140)),
 .s (.st 4 (.t 8) (.k 141)),
 .o 9 (.mv (.k 142))] false [6,7,8,9] [6,7,8])
 .ret)))))⟩

def F_c_ref07_Step : F := ⟨3,[.inr (6,true,1),.inr (7,true,17),.inr (8,true,4),.inl 9],
 (.seq (.reg [.zz 0,.zz 1] [.o 3 (.bx (.k 0)),
 .o 4 (.bx (.k 1)),
 .o 6 (.al ([.l .o 3 []])),
 .o 7 (.al ([.i .i64 0,.i .u64 0,.i .i64 0,.i .i64 0,.i .i64 0,.i .i64 0,.i .i64 0,.i .i64 0,.i .i64 0,.i .i64 0,.b false,.i .i64 0,.i .i64 0,.i .i64 0,.l .o 2 [],.i .i64 0,.l .o 2 []])),
 .o 8 (.al ([.b false,.i .u64 0,.i .i64 0,.i .i64 0])),
 .o 9 (.mv (.c (.b false)))] false [2,3,4,6,7,8] [3,4,6,7,8])
 (.seq (.seq (.reg [] [.o 15 (.fa 0 (.t 4)),
 .o 16 (.ld false 1 .cp (.k 15)),
 .o 17 (.bin .eql (.k 16) (.c (.i .i64 6)))] false [2,3,4,6,7,8,17] [3,4,6,7,8])
 (.cond 17 (.seq (.reg [] [.z 19 (.ld true 1 .cp (.t 3)) 2,
 .o 20 (.fa 6 (.t 4)),
 .o 21 (.ld false 1 .cp (.k 20)),
 .o 22 (.call n_c_ref05_Read [.k 19,.k 21]),
 .o 18 (.mv (.k 22)),
 .o 23 (.ex false 0 18),
 .o 24 (.ex false 1 18),
 .o 11 (.al ([.i .i64 0,.l .o 2 []])),
 .o 10 (.mv (.k 23)),
 .s (.st 2 (.t 11) (.k 24))] false [2,3,4,6,7,8,11] [3,4,6,7,8,11])
 (.seq (.reg [] [.o 25 (.fa 9 (.t 4)),
 .o 26 (.ld false 1 .cp (.k 25)),
 .o 27 (.fa 0 (.k 11)),
 .o 28 (.ld false 1 .cp (.k 27)),
 .o 29 (.bin .add (.k 26) (.k 28)),
 .o 30 (.fa 9 (.t 4)),
 .s (.st 1 (.k 30) (.k 29))] false [2,3,4,6,7,8] [3,4,6,7,8])
 (.seq (.reg [] [.o 31 (.fa 6 (.t 4)),
 .o 32 (.ld false 1 .cp (.k 31)),
 .o 33 (.bin .add (.k 32) (.c (.i .i64 1))),
 .o 34 (.fa 6 (.t 4)),
 .s (.st 1 (.k 34) (.k 33))] false [2,3,4,6,7,8] [3,4,6,7,8])
 (.seq (.seq (.reg [] [.o 35 (.fa 6 (.t 4)),
 .o 36 (.ld false 1 .cp (.k 35)),
 .o 37 (.mv (.k 2)),
 .o 38 (.bin .eql (.k 36) (.k 37))] false [3,4,6,7,8,38] [3,4,6,7,8])
 (.cond 38 (.seq (.reg [] [.o 39 (.ld true 1 .cp (.k 3)),
 .u 40 (.ld true 17 .cp (.t 4)) [0] 0,
 .u 41 (.fa 9 (.t 4)) [0,1] 0,
 .u 42 (.ld false 1 .cp (.k 41)) [0,1] 0,
 .u 43 (.bd ([.b false,.i .u64 0,.i .i64 0,.i .i64 0]) [(0,1,.c (.b true)),(3,1,.k 42)]) [0,1] 0,
 ⟨none,none,.st 1 (.t 6) (.k 39),[1,2,3,4],0⟩,
 ⟨none,none,.st 17 (.t 7) (.k 40),[2,3,4],0⟩,
 .s (.st 4 (.t 8) (.k 43)),
 .o 9 (.mv (.c (.b true)))] true [6,7,8,9] [6,7,8])
 .ret)
 .skip))
 (.seq (.reg [] [.o 44 (.ld true 1 .cp (.k 3)),
 .u 45 (.ld true 17 .cp (.k 4)) [0] 0,
 .u 46 (.bd ([.b false,.i .u64 0,.i .i64 0,.i .i64 0]) []) [0,1] 0,
 ⟨none,none,.st 1 (.t 6) (.k 44),[1,2],0⟩,
 ⟨none,none,.st 17 (.t 7) (.k 45),[2],0⟩,
 .s (.st 4 (.t 8) (.k 46)),
 .o 9 (.mv (.c (.b false)))] true [6,7,8,9] [6,7,8])
 .ret)))))
 .skip))
 (.seq (.reg [] [.o 47 (.fa 3 (.t 4)),
 .o 48 (.ld false 1 .cp (.k 47)),
 .o 49 (.mv (.k 2)),
 .o 50 (.call n_c_ref06_Into [.k 48,.k 49]),
 .o 12 (.mv (.k 50))] false [3,4,6,7,8,12] [3,4,6,7,8])
 (.seq (.seq (.reg [] [.o 51 (.fa 5 (.t 4)),
 .o 52 (.ld false 1 .cp (.k 51)),
 .o 53 (.bin .eql (.k 52) (.c (.i .i64 0)))] false [3,4,6,7,8,12,53] [3,4,6,7,8])
 (.cond 53 (.seq (.reg [] [.z 55 (.ld true 1 .cp (.t 3)) 2,
 .o 56 (.mv (.k 12)),
 .o 57 (.call n_c_ref05_Read [.k 55,.k 56]),
 .o 54 (.mv (.k 57)),
 .o 58 (.ex false 0 54),
 .o 59 (.ex false 1 54),
 .o 60 (.fa 11 (.t 4)),
 .s (.st 1 (.k 60) (.k 58)),
 .o 61 (.fa 13 (.t 4)),
 .s (.st 2 (.k 61) (.k 59))] false [3,4,6,7,8] [3,4,6,7,8])
 (.seq (.reg [] [.o 62 (.fa 5 (.t 4)),
 .s (.st 1 (.k 62) (.c (.i .i64 1)))] false [3,4,6,7,8] [3,4,6,7,8])
 (.seq (.reg [] [.o 63 (.ld true 1 .cp (.k 3)),
 .u 64 (.ld true 17 .cp (.k 4)) [0] 0,
 .u 65 (.bd ([.b false,.i .u64 0,.i .i64 0,.i .i64 0]) []) [0,1] 0,
 ⟨none,none,.st 1 (.t 6) (.k 63),[1,2],0⟩,
 ⟨none,none,.st 17 (.t 7) (.k 64),[2],0⟩,
 .s (.st 4 (.t 8) (.k 65)),
 .o 9 (.mv (.c (.b false)))] true [6,7,8,9] [6,7,8])
 .ret)))
 .skip))
 (.seq (.reg [] [.o 66 (.fa 5 (.t 4)),
 .s (.st 1 (.k 66) (.c (.i .i64 0)))] false [3,4,6,7,8,12] [3,4,6,7,8])
 (.seq (.reg [] [.z 68 (.ld true 1 .tk (.k 3)) 2,
 .o 69 (.mv (.k 12)),
 .o 70 (.fa 11 (.t 4)),
 .o 71 (.ld false 1 .cp (.k 70)),
 .o 72 (.fa 13 (.t 4)),
 .o 73 (.fa 0 (.k 72)),
 .o 74 (.ld false 1 .cp (.k 73)),
 .o 75 (.fa 1 (.t 4)),
 .o 76 (.fa 1 (.k 75)),
 .o 77 (.ld false 1 .cp (.k 76)),
 .o 78 (.bin .add (.k 74) (.k 77)),
 .z 79 (.bd ([.i .i64 0,.l .o 2 []]) [(0,1,.k 78)]) 2,
 .o 80 (.call n_c_ref05_Write [.k 68,.k 69,.k 71,.k 79]),
 .o 67 (.mv (.k 80)),
 .o 81 (.ex false 0 67),
 .o 82 (.ex false 1 67),
 .o 13 (.al ([.l .o 3 []])),
 .s (.st 1 (.t 13) (.k 81)),
 .o 14 (.mv (.k 82))] false [4,6,7,8,13,14] [4,6,7,8,13])
 (.seq (.reg [] [.o 83 (.ld true 1 .cp (.k 13)),
 .u 84 (.ld true 17 .cp (.k 4)) [0] 0,
 .u 85 (.mv (.t 14)) [0,1] 0,
 .u 86 (.bd ([.b false,.i .u64 0,.i .i64 0,.i .i64 0]) [(0,1,.k 85)]) [0,1] 0,
 .u 87 (.mv (.t 14)) [0,1,2,3] 0,
 ⟨none,none,.st 1 (.t 6) (.k 83),[1,2,3,4],0⟩,
 ⟨none,none,.st 17 (.t 7) (.k 84),[2,3,4],0⟩,
 ⟨none,none,.st 4 (.t 8) (.k 86),[4],0⟩,
 .o 9 (.mv (.k 87))] true [6,7,8,9] [6,7,8])
 .ret)))))))⟩

def F_c_ref11_Step : F := ⟨3,[.inr (6,true,1),.inr (7,true,17),.inr (8,true,4),.inl 9],
 (.seq (.reg [.zz 0,.zz 1,.zz 2] [.o 3 (.bx (.k 0)),
 .o 4 (.bx (.k 1)),
 .o 5 (.bx (.k 2)),
 .o 6 (.al ([.l .o 3 []])),
 .o 7 (.al ([.i .i64 0,.i .u64 0,.i .i64 0,.i .i64 0,.i .i64 0,.i .i64 0,.i .i64 0,.i .i64 0,.i .i64 0,.i .i64 0,.b false,.i .i64 0,.i .i64 0,.i .i64 0,.l .o 2 [],.i .i64 0,.l .o 2 []])),
 .o 8 (.al ([.b false,.i .u64 0,.i .i64 0,.i .i64 0])),
 .o 9 (.mv (.c (.b false)))] false [3,4,5,6,7,8] [3,4,5,6,7,8])
 (.seq (.reg [] [.o 16 (.fa 1 (.t 5)),
 .o 17 (.ld false 1 .cp (.k 16)),
 .o 18 (.len false (.k 17)),
 .o 10 (.mv (.k 18))] false [3,4,5,6,7,8,10] [3,4,5,6,7,8])
 (.seq (.seq (.reg [] [.o 19 (.fa 5 (.t 4)),
 .o 20 (.ld false 1 .cp (.k 19)),
 .o 21 (.bin .eql (.k 20) (.c (.i .i64 0)))] false [3,4,5,6,7,8,10,21] [3,4,5,6,7,8])
 (.cond 21 (.reg [] [.o 22 (.fa 3 (.t 4)),
 .o 23 (.ld false 1 .cp (.k 22)),
 .o 24 (.mv (.t 10)),
 .o 25 (.call n_c_ref06_Into [.k 23,.k 24]),
 .o 26 (.fa 5 (.t 4)),
 .s (.st 1 (.k 26) (.c (.i .i64 1))),
 .o 27 (.fa 6 (.t 4)),
 .s (.st 1 (.k 27) (.k 25))] false [3,4,5,6,7,8,10] [3,4,5,6,7,8])
 .skip))
 (.seq (.seq (.reg [] [.o 28 (.fa 7 (.t 4)),
 .o 29 (.ld false 1 .cp (.k 28)),
 .o 11 (.mv (.k 29))] false [3,4,5,6,7,8,10,11] [3,4,5,6,7,8])
 (.blk 0 (.loop (.seq (.seq (.reg [] [.o 30 (.mv (.t 11)),
 .o 31 (.fa 0 (.t 5)),
 .o 32 (.ld false 1 .cp (.k 31)),
 .o 33 (.len false (.k 32)),
 .o 34 (.bin .quo (.k 33) (.c (.i .i64 2))),
 .o 35 (.bin .lss (.k 30) (.k 34))] false [3,4,5,6,7,8,10,11,35] [3,4,5,6,7,8])
 (.cond 35 .skip
 (.exit 0)))
 (.seq (.blk 1 (.seq (.seq (.reg [] [.o 38 (.fa 0 (.t 5)),
 .o 39 (.ld false 1 .cp (.k 38)),
 .u 40 (.mv (.t 11)) [0,1] 0,
 .u 41 (.bin .mul (.c (.i .i64 2)) (.k 40)) [0,1] 0,
 .o 42 (.ia 1 none (.k 39) (.k 41)),
 .o 43 (.ld false 1 .cp (.k 42)),
 .u 44 (.fa 6 (.t 4)) [0,1,2,3,4,5] 0,
 .u 45 (.ld false 1 .cp (.k 44)) [0,1,2,3,4,5] 0,
 .o 46 (.bin .neq (.k 43) (.k 45)),
 .o 47 (.mv (.k 46)),
 .c 47 true 48 (.fa 0 (.t 5)),
 .c 47 true 49 (.ld false 1 .cp (.k 48)),
 ⟨some 50,some (47,true),.mv (.t 11),[10,11],0⟩,
 ⟨some 51,some (47,true),.bin .mul (.c (.i .i64 2)) (.k 50),[10,11],0⟩,
 ⟨some 52,some (47,true),.bin .add (.k 51) (.c (.i .i64 1)),[10,11],0⟩,
 .c 47 true 53 (.ia 1 none (.k 49) (.k 52)),
 .c 47 true 54 (.ld false 1 .cp (.k 53)),
 ⟨some 55,some (47,true),.fa 6 (.t 4),[10,11,12,13,14,15,16],0⟩,
 ⟨some 56,some (47,true),.ld false 1 .cp (.k 55),[10,11,12,13,14,15,16],0⟩,
 .c 47 true 57 (.bin .neq (.k 54) (.k 56)),
 .o 58 (.pick (.t 47) (.k 57) (.c (.b false)))] true [3,4,5,6,7,8,10,11,58] [3,4,5,6,7,8])
 (.cond 58 (.exit 1)
 .skip))
 (.seq (.reg [] [.o 12 (.mv (.c (.i .i64 0)))] false [3,4,5,6,7,8,11] [3,4,5,6,7,8])
 (.seq (.reg [] [.z 60 (.ld true 1 .cp (.t 3)) 2,
 .o 61 (.mv (.t 11)),
 .o 62 (.call n_c_ref11_more [.k 60,.k 61]),
 .o 59 (.mv (.k 62)),
 .o 63 (.ex false 0 59),
 .o 64 (.ex false 1 59),
 .s (.st 1 (.t 3) (.k 63)),
 .o 12 (.mv (.k 64))] false [3,4,5,6,7,8,11,12] [3,4,5,6,7,8])
 (.seq (.reg [] [.o 65 (.mv (.t 11)),
 .o 66 (.bin .add (.k 65) (.c (.i .i64 1))),
 .u 67 (.fa 0 (.k 5)) [0,1] 0,
 .u 68 (.ld false 1 .cp (.k 67)) [0,1] 0,
 .u 69 (.mv (.t 11)) [0,1,2,3] 0,
 .u 70 (.bin .mul (.c (.i .i64 2)) (.k 69)) [0,1,2,3] 0,
 .u 71 (.mv (.k 12)) [0,1,2,3,4,5] 0,
 .u 72 (.bin .rem (.k 71) (.c (.i .i64 2))) [0,1,2,3,4,5] 0,
 .u 73 (.bin .add (.k 70) (.k 72)) [0,1,2,3] 0,
 .u 74 (.ia 1 none (.k 68) (.k 73)) [0,1] 0,
 .u 75 (.ld false 1 .cp (.k 74)) [0,1] 0,
 .u 76 (.fa 7 (.t 4)) [2,3,4,5,6,7,8,9,10] 0,
 ⟨none,none,.st 1 (.k 76) (.k 66),[2,3,4,5,6,7,8,9,10],0⟩,
 .o 77 (.fa 6 (.t 4)),
 .s (.st 1 (.k 77) (.k 75))] true [3,4,6,7,8] [3,4,6,7,8])
 (.seq (.reg [] [.o 78 (.ld true 1 .cp (.k 3)),
 .u 79 (.ld true 17 .cp (.k 4)) [0] 0,
 .u 80 (.bd ([.b false,.i .u64 0,.i .i64 0,.i .i64 0]) []) [0,1] 0,
 ⟨none,none,.st 1 (.t 6) (.k 78),[1,2],0⟩,
 ⟨none,none,.st 17 (.t 7) (.k 79),[2],0⟩,
 .s (.st 4 (.t 8) (.k 80)),
 .o 9 (.mv (.c (.b false)))] true [6,7,8,9] [6,7,8])
 .ret))))))
 (.reg [] [.o 36 (.mv (.k 11)),
 .o 37 (.bin .add (.k 36) (.c (.i .i64 1))),
 .o 11 (.mv (.k 37))] false [3,4,5,6,7,8,10,11] [3,4,5,6,7,8]))))))
 (.seq (.reg [] [.o 13 (.mv (.c (.i .i64 0)))] false [3,4,5,6,7,8,10,13] [3,4,5,6,7,8])
 (.seq (.seq (.reg [] [.o 81 (.fa 1 (.t 5)),
 .o 82 (.ld false 1 .cp (.k 81)),
 .o 83 (.len false (.k 82)),
 .o 84 (.mv (.c (.i .i64 0)))] false [3,4,5,6,7,8,10,13,83,84] [3,4,5,6,7,8])
 (.blk 2 (.loop (.seq (.reg [] [.o 85 (.bin .lss (.t 84) (.t 83))] false [3,4,5,6,7,8,10,13,83,84,85] [3,4,5,6,7,8])
 (.seq (.cond 85 .skip
 (.exit 2))
 (.seq (.blk 3 (.seq (.reg [] [.o 86 (.mv (.t 84)),
 .o 14 (.mv (.k 86))] false [3,4,5,6,7,8,10,13,14,83,84] [3,4,5,6,7,8])
 (.seq (.reg [] [.o 87 (.fa 1 (.t 5)),
 .o 88 (.ld false 1 .cp (.k 87)),
 .u 89 (.mv (.t 14)) [0,1] 0,
 .o 90 (.ia 1 none (.k 88) (.k 89)),
 .o 91 (.ld false 1 .cp (.k 90)),
 .u 92 (.fa 6 (.t 4)) [0,1,2,3,4] 0,
 .u 93 (.ld false 1 .cp (.k 92)) [0,1,2,3,4] 0,
 .o 94 (.bin .eql (.k 91) (.k 93))] true [3,4,5,6,7,8,10,13,14,83,84,94] [3,4,5,6,7,8])
 (.cond 94 (.reg [] [.o 95 (.mv (.k 14)),
 .o 13 (.mv (.k 95))] false [3,4,5,6,7,8,10,13,83,84] [3,4,5,6,7,8])
 .skip))))
 (.reg [] [.o 96 (.bin .add (.k 84) (.c (.i .i64 1))),
 .o 84 (.mv (.k 96))] false [3,4,5,6,7,8,10,13,83,84] [3,4,5,6,7,8])))))))
 (.seq (.reg [] [.o 15 (.mv (.c (.i .i64 0)))] false [3,4,5,6,7,8,10,13] [3,4,5,6,7,8])
 (.seq (.reg [] [.z 98 (.ld true 1 .cp (.t 3)) 2,
 .o 99 (.fa 0 (.k 5)),
 .o 100 (.ld false 1 .tk (.k 99)),
 .o 101 (.len false (.k 100)),
 .o 102 (.bin .quo (.k 101) (.c (.i .i64 2))),
 .o 103 (.mv (.t 13)),
 .o 104 (.bin .add (.k 102) (.k 103)),
 .o 105 (.call n_c_ref11_more [.k 98,.k 104]),
 .o 97 (.mv (.k 105)),
 .o 106 (.ex false 0 97),
 .o 107 (.ex false 1 97),
 .s (.st 1 (.t 3) (.k 106)),
 .o 15 (.mv (.k 107))] false [3,4,6,7,8,10,13,15] [3,4,6,7,8])
 (.seq (.reg [] [.o 108 (.ld true 1 .cp (.k 3)),
 .u 109 (.ld true 17 .cp (.k 4)) [0] 0,
 .u 110 (.mv (.k 13)) [0,1] 0,
 .u 111 (.mv (.k 10)) [0,1,2] 0,
 .u 112 (.mv (.k 15)) [0,1,2,3] 0,
 .u 113 (.bin .mul (.k 111) (.k 112)) [0,1,2] 0,
 .u 114 (.bin .add (.k 110) (.k 113)) [0,1] 0,
 .u 115 (.bd ([.b false,.i .u64 0,.i .i64 0,.i .i64 0]) [(0,1,.c (.b true)),(3,1,.k 114)]) [0,1] 0,
 ⟨none,none,.st 1 (.t 6) (.k 108),[1,2,3,4,5,6,7],0⟩,
 ⟨none,none,.st 17 (.t 7) (.k 109),[2,3,4,5,6,7],0⟩,
 .s (.st 4 (.t 8) (.k 115)),
 .o 9 (.mv (.c (.b true)))] true [6,7,8,9] [6,7,8])
 .ret)))))))))⟩

def F_c_law06_Told : F := ⟨2,[.inr (4,true,17)],
 (.seq (.reg [] [.o 3 (.bx (.k 1)),
 .o 4 (.al ([.i .i64 0,.i .u64 0,.i .i64 0,.i .i64 0,.i .i64 0,.i .i64 0,.i .i64 0,.i .i64 0,.i .i64 0,.i .i64 0,.b false,.i .i64 0,.i .i64 0,.i .i64 0,.l .o 2 [],.i .i64 0,.l .o 2 []]))] false [0,3,4] [3,4])
 (.seq (.reg [] [.o 6 (.mv (.k 0)),
 .o 7 (.ld true 5 .cp (.t 3)),
 .o 8 (.call n_c_law06_Own [.k 6,.k 7]),
 .o 5 (.al ([.i .i64 0,.f .f64 0,.i .i64 0,.i .i64 0,.i .i64 0])),
 .s (.st 5 (.t 5) (.k 8))] false [3,4,5] [3,4,5])
 (.seq (.reg [] [.o 9 (.fa 0 (.t 5)),
 .o 10 (.ld false 1 .cp (.k 9)),
 .u 11 (.fa 1 (.t 3)) [0,1] 0,
 .u 12 (.fa 0 (.k 11)) [0,1] 0,
 .u 13 (.ld false 1 .cp (.k 12)) [0,1] 0,
 .u 14 (.fa 1 (.t 5)) [0,1,2,3,4] 0,
 .u 15 (.fa 1 (.k 14)) [0,1,2,3,4] 0,
 .u 16 (.ld false 1 .cp (.k 15)) [0,1,2,3,4] 0,
 .u 17 (.call n_c_ref04_Make [.k 13,.k 16]) [0,1] 0,
 .u 18 (.fa 3 (.t 3)) [0,1,2,3,4,5,6,7,8] 0,
 .u 19 (.ld false 1 .cp (.k 18)) [0,1,2,3,4,5,6,7,8] 0,
 .u 20 (.fa 4 (.t 3)) [0,1,2,3,4,5,6,7,8,9,10] 0,
 .u 21 (.ld false 1 .cp (.k 20)) [0,1,2,3,4,5,6,7,8,9,10] 0,
 .o 22 (.bd ([.i .i64 0,.i .u64 0,.i .i64 0,.i .i64 0,.i .i64 0,.i .i64 0,.i .i64 0,.i .i64 0,.i .i64 0,.i .i64 0,.b false,.i .i64 0,.i .i64 0,.i .i64 0,.l .o 2 [],.i .i64 0,.l .o 2 []]) [(0,1,.k 10),(1,2,.k 17),(3,1,.k 19),(4,1,.k 21)]),
 .s (.st 17 (.t 4) (.k 22))] true [4] [4])
 .ret)))⟩

def F_c_law06_IsAnswer : F := ⟨2,[.inl 4],
 (.seq (.reg [] [.o 2 (.bx (.k 0)),
 .o 3 (.bx (.k 1)),
 .o 4 (.mv (.c (.i .i64 0)))] false [2,3] [2,3])
 (.seq (.seq (.reg [] [.o 5 (.fa 0 (.t 2)),
 .o 6 (.ld false 1 .cp (.k 5)),
 .o 7 (.fa 0 (.t 3)),
 .o 8 (.ld false 1 .cp (.k 7)),
 .o 9 (.eq true .bo (.k 6) (.k 8)),
 .o 10 (.mv (.k 9)),
 .c 10 false 11 (.fa 3 (.t 2)),
 .c 10 false 12 (.ld false 1 .cp (.k 11)),
 .c 10 false 13 (.fa 3 (.t 3)),
 .c 10 false 14 (.ld false 1 .cp (.k 13)),
 .c 10 false 15 (.bin .neq (.k 12) (.k 14)),
 .o 16 (.pick (.k 10) (.c (.b true)) (.k 15))] false [2,3,16] [2,3])
 (.cond 16 (.seq (.reg [] [.o 4 (.mv (.c (.i .i64 (-1))))] false [4] [])
 .ret)
 .skip))
 (.seq (.reg [] [.o 17 (.fa 1 (.k 2)),
 .o 18 (.ld true 2 .cp (.k 17)),
 .o 19 (.fa 1 (.k 3)),
 .o 20 (.ld true 2 .cp (.k 19)),
 .o 21 (.call n_c_law04_Is [.k 18,.k 20]),
 .o 4 (.mv (.k 21))] false [4] [])
 .ret)))⟩

def F_value_line_1 : F := ⟨2,[.inl 4],
 (.seq (.reg [.zz 0,.zz 1] [.o 2 (.bx (.k 0)),
 .o 3 (.bx (.k 1)),
 .o 4 (.mv (.c (.i .i64 0)))] false [2,3] [2,3])
 (.seq (.reg [] [.o 5 (.fa 0 (.k 2)),
 .o 6 (.ld false 1 .cp (.k 5)),
 .o 7 (.cv (.int .i64) (.k 6)),
 .o 8 (.fa 0 (.k 3)),
 .o 9 (.ld false 1 .cp (.k 8)),
 .o 10 (.cv (.int .i64) (.k 9)),
 .o 11 (.bin .sub (.k 7) (.k 10)),
 .o 4 (.mv (.k 11))] false [4] [])
 .ret))⟩

def F_wire_Make : F := ⟨1,[.inr (2,true,3),.inl 3],
 (.seq (.reg [] [.o 2 (.al ([.i .i64 0,.l .o 2 [],.l .o 1 []])),
 .o 3 (.mv (.c (.i .i64 0)))] false [0,2] [2])
 (.seq (.seq (.reg [] [.o 8 (.mv (.t 0)),
 .o 9 (.call n_op_Legal [.c (.i .i64 4),.k 8]),
 .o 4 (.mv (.k 9))] false [0,2,4] [2])
 (.seq (.reg [] [.o 10 (.mv (.t 4)),
 .o 11 (.bin .neq (.k 10) (.c (.i .i64 0)))] false [0,2,4,11] [2])
 (.cond 11 (.seq (.reg [] [.o 12 (.bd ([.i .i64 0,.l .o 2 [],.l .o 1 []]) []),
 .o 13 (.mv (.k 4)),
 .s (.st 3 (.t 2) (.k 12)),
 .o 3 (.mv (.k 13))] false [2,3] [2])
 .ret)
 .skip)))
 (.seq (.reg [] [.o 14 (.mv (.t 0)),
 .o 15 (.bd ([.i .i64 0,.l .o 2 [],.l .o 1 []]) [(0,1,.k 14)]),
 .o 5 (.ag ([.i .i64 0,.l .o 2 [],.l .o 1 []])),
 .s (.st 3 (.t 5) (.k 15))] false [0,2,5] [2])
 (.seq (.reg [] [.o 16 (.mv (.k 0)),
 .o 17 (.ms 1 8 (.i .i64 0) (.t 16) (.t 16)),
 .o 6 (.mv (.k 17))] false [2,5,6] [2,6])
 (.seq (.seq (.reg [.thaw 6] [.o 18 (.mv (.t 6)),
 .o 19 (.len false (.k 18)),
 .o 20 (.mv (.c (.i .i64 0)))] false [2,5,6,19,20] [2,6])
 (.blk 0 (.loop (.seq (.reg [] [.o 21 (.bin .lss (.t 20) (.t 19))] false [2,5,6,19,20,21] [2,6])
 (.seq (.cond 21 .skip
 (.exit 0))
 (.seq (.blk 1 (.seq (.reg [] [.o 22 (.mv (.t 20)),
 .o 7 (.mv (.k 22))] false [2,5,6,7,19,20] [2,6])
 (.reg [.thaw 6] [.o 23 (.mv (.t 6)),
 .o 24 (.mv (.t 7)),
 .o 25 (.mv (.k 7)),
 .o 26 (.ia 1 none (.k 23) (.k 24)),
 .s (.st 1 (.k 26) (.k 25))] false [2,5,6,19,20] [2,6])))
 (.reg [] [.o 27 (.bin .add (.k 20) (.c (.i .i64 1))),
 .o 20 (.mv (.k 27))] false [2,5,6,19,20] [2,6])))))))
 (.seq (.reg [.unth 6] [.z 28 (.mv (.k 6)) 2,
 .o 29 (.call n_wire_Plan_count [.t 5,.k 28]),
 .o 30 (.fa 2 (.t 5)),
 .s (.st 1 (.k 30) (.k 29))] false [2,5] [2])
 (.seq (.reg [] [.o 31 (.ld true 3 .cp (.k 5)),
 .s (.st 3 (.t 2) (.k 31)),
 .o 3 (.mv (.c (.i .i64 0)))] false [2,3] [2])
 .ret)))))))⟩

def F_c_ref04_With : F := ⟨2,[.inl 4],
 (.seq (.reg [.zz 0] [.o 3 (.bx (.k 1)),
 .o 4 (.mv (.c (.l .o 2 [])))] false [0,3] [3])
 (.seq (.reg [] [.z 9 (.bs 2 0 (.a ([.i .u64 0,.i .i64 0])) []) 1,
 .o 5 (.mv (.k 9))] false [0,3,5] [3])
 (.seq (.reg [] [.o 6 (.mv (.c (.b false)))] false [0,3,5,6] [3])
 (.seq (.seq (.reg [] [.o 10 (.mv (.k 0)),
 .o 11 (.len false (.t 10)),
 .o 12 (.mv (.c (.i .i64 0)))] false [3,5,6,10,11,12] [3])
 (.blk 0 (.loop (.seq (.reg [] [.o 13 (.bin .lss (.t 12) (.t 11))] false [3,5,6,10,11,12,13] [3])
 (.seq (.cond 13 .skip
 (.exit 0))
 (.seq (.blk 1 (.seq (.reg [] [.o 14 (.ia 2 none (.t 10) (.t 12)),
 .o 15 (.ld true 2 .cp (.k 14)),
 .o 8 (.al ([.i .u64 0,.i .i64 0])),
 .s (.st 2 (.t 8) (.k 15))] false [3,5,6,8,10,11,12] [3,8])
 (.seq (.seq (.reg [] [.o 16 (.mv (.t 6)),
 .o 17 (.un .not (.k 16)),
 .o 18 (.mv (.k 17)),
 .c 18 true 19 (.ld true 2 .cp (.t 3)),
 .c 18 true 20 (.ld true 2 .cp (.t 8)),
 .c 18 true 21 (.call n_c_ref04_Cmp [.k 19,.k 20]),
 .c 18 true 22 (.bin .lss (.k 21) (.c (.i .i64 0))),
 .o 23 (.pick (.k 18) (.k 22) (.c (.b false)))] false [3,5,6,8,10,11,12,23] [3,8])
 (.cond 23 (.seq (.reg [] [.o 24 (.mv (.k 5)),
 .o 25 (.ld true 2 .cp (.t 3)),
 .o 26 (.bs 2 1 (.a ([.i .u64 0,.i .i64 0])) [(0,.k 25)]),
 .z 27 (.app 2 16 (.k 24) (.k 26)) 1,
 .o 5 (.mv (.k 27))] false [3,5,8,10,11,12] [3,8])
 (.reg [] [.o 6 (.mv (.c (.b true)))] false [3,5,6,8,10,11,12] [3,8]))
 .skip))
 (.reg [] [.o 28 (.mv (.k 5)),
 .o 29 (.ld true 2 .cp (.k 8)),
 .o 30 (.bs 2 1 (.a ([.i .u64 0,.i .i64 0])) [(0,.k 29)]),
 .z 31 (.app 2 16 (.k 28) (.k 30)) 1,
 .o 5 (.mv (.k 31))] false [3,5,6,10,11,12] [3]))))
 (.reg [] [.o 32 (.bin .add (.k 12) (.c (.i .i64 1))),
 .o 12 (.mv (.k 32))] false [3,5,6,10,11,12] [3])))))))
 (.seq (.seq (.reg [] [.o 33 (.mv (.k 6)),
 .o 34 (.un .not (.k 33))] false [3,5,34] [3])
 (.cond 34 (.reg [] [.o 35 (.mv (.k 5)),
 .o 36 (.ld true 2 .cp (.k 3)),
 .o 37 (.bs 2 1 (.a ([.i .u64 0,.i .i64 0])) [(0,.k 36)]),
 .z 38 (.app 2 16 (.k 35) (.k 37)) 1,
 .o 5 (.mv (.k 38))] false [5] [])
 .skip))
 (.seq (.reg [] [.o 39 (.mv (.k 5)),
 .o 4 (.mv (.k 39))] false [4] [])
 .ret))))))⟩

def F_c_ref10_Merge : F := ⟨2,[.inr (4,true,2)],
 (.seq (.reg [.zz 0,.zz 1] [.o 4 (.al ([.l .o 1 [],.l .o 1 []]))] false [0,1,4] [4])
 (.seq (.seq (.reg [] [.o 9 (.mv (.t 0)),
 .o 10 (.len false (.k 9)),
 .o 11 (.bin .lss (.k 10) (.c (.i .i64 2)))] false [0,1,4,11] [4])
 (.cond 11 (.seq (.reg [] [.o 12 (.mv (.t 0)),
 .o 13 (.ia 1 none (.k 12) (.c (.i .i64 0))),
 .o 14 (.ld false 1 .cp (.k 13)),
 .u 15 (.mv (.t 1)) [0,1,2] 0,
 .u 16 (.ia 1 none (.k 15) (.c (.i .i64 0))) [0,1,2] 0,
 .u 17 (.ld false 1 .cp (.k 16)) [0,1,2] 0,
 .z 18 (.bs 1 2 (.i .i64 0) [(0,.k 14),(1,.k 17)]) 1,
 .u 19 (.mv (.t 0)) [0,1,2,3,4,5,6] 0,
 .u 20 (.ia 1 none (.k 19) (.c (.i .i64 0))) [0,1,2,3,4,5,6] 0,
 .u 21 (.ld false 1 .cp (.k 20)) [0,1,2,3,4,5,6] 0,
 .u 22 (.mv (.t 1)) [0,1,2,3,4,5,6,7,8,9] 0,
 .u 23 (.ia 1 none (.k 22) (.c (.i .i64 0))) [0,1,2,3,4,5,6,7,8,9] 0,
 .u 24 (.ld false 1 .cp (.k 23)) [0,1,2,3,4,5,6,7,8,9] 0,
 .u 25 (.bs 1 2 (.i .i64 0) [(0,.k 21),(1,.k 24)]) [0,1,2,3,4,5,6] 1,
 .o 26 (.bd ([.l .o 1 [],.l .o 1 []]) [(0,1,.k 18),(1,1,.k 25)]),
 .s (.st 2 (.t 4) (.k 26))] true [4] [4])
 .ret)
 .skip))
 (.seq (.reg [] [.z 27 (.mv (.t 0)) 2,
 .z 28 (.call n_c_ref10_pick [.k 27,.c (.i .i64 0)]) 2,
 .z 29 (.mv (.t 1)) 2,
 .z 30 (.call n_c_ref10_pick [.k 29,.c (.i .i64 1)]) 2,
 .o 31 (.call n_c_ref10_Merge [.k 28,.k 30]),
 .o 5 (.al ([.l .o 1 [],.l .o 1 []])),
 .s (.st 2 (.t 5) (.k 31))] false [0,1,4,5] [4,5])
 (.seq (.reg [] [.z 32 (.mv (.k 0)) 2,
 .z 33 (.call n_c_ref10_pick [.k 32,.c (.i .i64 1)]) 2,
 .z 34 (.mv (.k 1)) 2,
 .z 35 (.call n_c_ref10_pick [.k 34,.c (.i .i64 0)]) 2,
 .o 36 (.call n_c_ref10_Merge [.k 33,.k 35]),
 .o 6 (.al ([.l .o 1 [],.l .o 1 []])),
 .s (.st 2 (.t 6) (.k 36))] false [4,5,6] [4,5,6])
 (.seq (.reg [] [.z 37 (.bs 1 0 (.i .i64 0) []) 1,
 .u 38 (.fa 0 (.t 5)) [0] 0,
 .u 39 (.ld false 1 .cp (.k 38)) [0] 0,
 .z 40 (.app 1 8 (.k 37) (.k 39)) 1,
 .u 41 (.fa 0 (.t 6)) [0,1,2,3] 0,
 .u 42 (.ld false 1 .cp (.k 41)) [0,1,2,3] 0,
 .z 43 (.app 1 8 (.k 40) (.k 42)) 1,
 .u 44 (.bs 1 0 (.i .i64 0) []) [0,1,2,3,4,5,6] 1,
 .o 45 (.bd ([.l .o 1 [],.l .o 1 []]) [(0,1,.k 43),(1,1,.k 44)]),
 .u 7 (.al ([.l .o 1 [],.l .o 1 []])) [0,1,2,3,4,5,6,7,8] 0,
 .s (.st 2 (.t 7) (.k 45))] true [4,5,6,7] [4,5,6,7])
 (.seq (.seq (.reg [] [.o 46 (.fa 1 (.t 5)),
 .o 47 (.ld false 1 .cp (.k 46)),
 .o 48 (.len false (.k 47)),
 .o 49 (.mv (.c (.i .i64 0)))] false [4,5,6,7,48,49] [4,5,6,7])
 (.blk 0 (.loop (.seq (.reg [] [.o 50 (.bin .lss (.t 49) (.t 48))] false [4,5,6,7,48,49,50] [4,5,6,7])
 (.seq (.cond 50 .skip
 (.exit 0))
 (.seq (.blk 1 (.seq (.reg [] [.o 51 (.mv (.t 49)),
 .o 8 (.mv (.k 51))] false [4,5,6,7,8,48,49] [4,5,6,7])
 (.seq (.reg [] [.o 52 (.fa 0 (.t 7)),
 .o 53 (.ld false 1 .tk (.k 52)),
 .u 54 (.fa 1 (.t 5)) [0,1] 0,
 .u 55 (.ld false 1 .cp (.k 54)) [0,1] 0,
 .u 56 (.mv (.t 8)) [0,1,2,3] 0,
 .u 57 (.ia 1 none (.k 55) (.k 56)) [0,1] 0,
 .u 58 (.ld false 1 .cp (.k 57)) [0,1] 0,
 .u 59 (.fa 1 (.t 6)) [0,1,2,3,4,5,6] 0,
 .u 60 (.ld false 1 .cp (.k 59)) [0,1,2,3,4,5,6] 0,
 .u 61 (.mv (.t 8)) [0,1,2,3,4,5,6,7,8] 0,
 .u 62 (.ia 1 none (.k 60) (.k 61)) [0,1,2,3,4,5,6] 0,
 .u 63 (.ld false 1 .cp (.k 62)) [0,1,2,3,4,5,6] 0,
 .u 64 (.bs 1 2 (.i .i64 0) [(0,.k 58),(1,.k 63)]) [0,1] 0,
 .z 65 (.app 1 8 (.k 53) (.k 64)) 1,
 .o 66 (.fa 0 (.t 7)),
 .s (.st 1 (.k 66) (.k 65))] true [4,5,6,7,8,48,49] [4,5,6,7])
 (.reg [] [.o 67 (.fa 1 (.t 7)),
 .o 68 (.ld false 1 .tk (.k 67)),
 .u 69 (.fa 1 (.t 5)) [0,1] 0,
 .u 70 (.ld false 1 .cp (.k 69)) [0,1] 0,
 .u 71 (.mv (.t 8)) [0,1,2,3] 0,
 .u 72 (.ia 1 none (.k 70) (.k 71)) [0,1] 0,
 .u 73 (.ld false 1 .cp (.k 72)) [0,1] 0,
 .u 74 (.fa 1 (.t 6)) [0,1,2,3,4,5,6] 0,
 .u 75 (.ld false 1 .cp (.k 74)) [0,1,2,3,4,5,6] 0,
 .u 76 (.mv (.t 8)) [0,1,2,3,4,5,6,7,8] 0,
 .u 77 (.ia 1 none (.k 75) (.k 76)) [0,1,2,3,4,5,6] 0,
 .u 78 (.ld false 1 .cp (.k 77)) [0,1,2,3,4,5,6] 0,
 .u 79 (.bs 1 2 (.i .i64 0) [(0,.k 73),(1,.k 78)]) [0,1] 0,
 .z 80 (.app 1 8 (.k 68) (.k 79)) 1,
 .o 81 (.fa 1 (.t 7)),
 .s (.st 1 (.k 81) (.k 80))] true [4,5,6,7,48,49] [4,5,6,7]))))
 (.reg [] [.o 82 (.bin .add (.k 49) (.c (.i .i64 1))),
 .o 49 (.mv (.k 82))] false [4,5,6,7,48,49] [4,5,6,7])))))))
 (.seq (.reg [] [.o 83 (.ld true 2 .tk (.k 7)),
 .s (.st 2 (.t 4) (.k 83))] false [4] [4])
 .ret)))))))⟩

def F_op_Of : F := ⟨1,[.inl 2],
 (.seq (.reg [] [.o 2 (.mv (.c (.l .o 1 [])))] false [0] [])
 (.seq (.seq (.reg [] [.o 3 (.mv (.k 0))] false [3] [])
 (.blk 0 (.seq (.reg [] [.o 5 (.bin .eql (.t 3) (.c (.i .i64 1))),
 .o 4 (.mv (.k 5))] false [3,4] [])
 (.cond 4 (.seq (.reg [] [.z 6 (.bs 1 2 (.i .i64 0) [(0,.c (.i .i64 1)),(1,.c (.i .i64 2))]) 1,
 .o 2 (.mv (.k 6))] false [2] [])
 .ret)
 (.seq (.reg [] [.o 8 (.bin .eql (.t 3) (.c (.i .i64 2))),
 .o 7 (.mv (.k 8))] false [3,7] [])
 (.cond 7 (.seq (.reg [] [.z 9 (.bs 1 2 (.i .i64 0) [(0,.c (.i .i64 3)),(1,.c (.i .i64 4))]) 1,
 .o 2 (.mv (.k 9))] false [2] [])
 .ret)
 (.seq (.reg [] [.o 11 (.bin .eql (.t 3) (.c (.i .i64 3))),
 .o 10 (.mv (.k 11))] false [3,10] [])
 (.cond 10 (.seq (.reg [] [.z 12 (.bs 1 2 (.i .i64 0) [(0,.c (.i .i64 5)),(1,.c (.i .i64 6))]) 1,
 .o 2 (.mv (.k 12))] false [2] [])
 .ret)
 (.seq (.reg [] [.o 14 (.bin .eql (.k 3) (.c (.i .i64 4))),
 .o 13 (.mv (.k 14))] false [13] [])
 (.cond 13 (.seq (.reg [] [.z 15 (.bs 1 1 (.i .i64 0) [(0,.c (.i .i64 7))]) 1,
 .o 2 (.mv (.k 15))] false [2] [])
 .ret)
 .skip))))))))))
 (.seq (.reg [] [.o 2 (.mv (.c (.l .o 1 [])))] false [2] [])
 .ret)))⟩

def F_real_Canon : F := ⟨1,[.inl 2],
 (.seq (.reg [] [.o 2 (.mv (.c (.f .f64 0)))] false [0] [])
 (.seq (.seq (.reg [] [.o 3 (.mv (.t 0)),
 .o 4 (.mv (.t 0)),
 .o 5 (.bin .neq (.k 3) (.k 4))] false [0,5] [])
 (.cond 5 (.seq (.reg [] [.o 6 (.frbits (.c (.i .u64 9221120237041090560))),
 .o 2 (.mv (.k 6))] false [2] [])
 .ret)
 .skip))
 (.seq (.reg [] [.o 7 (.mv (.k 0)),
 .o 2 (.mv (.k 7))] false [2] [])
 .ret)))⟩

def F_slices_IndexFunc_pile_Item_pile_Item : F := ⟨2,[.inl 4],
 (.seq (.reg [.zz 0] [.o 4 (.mv (.c (.i .i64 0)))] false [0,1] [])
 (.seq (.seq (.reg [] [.o 6 (.mv (.t 0)),
 .o 7 (.len false (.k 6)),
 .o 8 (.mv (.c (.i .i64 0)))] false [0,1,7,8] [])
 (.blk 0 (.loop (.seq (.reg [] [.o 9 (.bin .lss (.t 8) (.t 7))] false [0,1,7,8,9] [])
 (.seq (.cond 9 .skip
 (.exit 0))
 (.seq (.blk 1 (.seq (.reg [] [.o 10 (.mv (.t 8)),
 .o 5 (.mv (.k 10))] false [0,1,5,7,8] [])
 (.seq (.reg [] [.o 11 (.mv (.t 1)),
 .o 12 (.mv (.t 0)),
 .o 13 (.mv (.t 5)),
 .o 14 (.ia 2 none (.k 12) (.k 13)),
 .o 15 (.ld true 2 .cp (.k 14)),
 .o 16 (.callv (.k 11) [.k 15])] false [0,1,5,7,8,16] [])
 (.cond 16 (.seq (.reg [] [.o 17 (.mv (.k 5)),
 .o 4 (.mv (.k 17))] false [4] [])
 .ret)
 .skip))))
 (.reg [] [.o 18 (.bin .add (.k 8) (.c (.i .i64 1))),
 .o 8 (.mv (.k 18))] false [0,1,7,8] [])))))))
 (.seq (.reg [] [.o 4 (.mv (.c (.i .i64 (-1))))] false [4] [])
 .ret)))⟩

def F_value_Value_without_1 : F := ⟨2,[.inl 3],
 (.seq (.reg [] [.o 2 (.bx (.k 0)),
 .o 3 (.mv (.c (.b false)))] false [1,2] [2])
 (.seq (.reg [] [.o 4 (.ld true 2 .cp (.k 1)),
 .o 5 (.ld true 2 .cp (.k 2)),
 .o 6 (.call n_pile_Item_Cmp [.k 4,.k 5]),
 .o 7 (.bin .eql (.k 6) (.c (.i .i64 0))),
 .o 3 (.mv (.k 7))] false [3] [])
 .ret))⟩

def F_c_ref03_Cmp : F := ⟨2,[.inl 4],
 (.seq (.reg [] [.o 4 (.mv (.c (.i .i64 0)))] false [0,1] [])
 (.seq (.seq (.reg [] [.o 5 (.mv (.t 0)),
 .o 6 (.call n_c_ref03_Key [.k 5]),
 .o 7 (.mv (.t 1)),
 .o 8 (.call n_c_ref03_Key [.k 7]),
 .o 9 (.bin .lss (.k 6) (.k 8))] false [0,1,9] [])
 (.cond 9 (.seq (.reg [] [.o 4 (.mv (.c (.i .i64 (-1))))] false [4] [])
 .ret)
 .skip))
 (.seq (.seq (.reg [] [.o 10 (.mv (.k 0)),
 .o 11 (.call n_c_ref03_Key [.k 10]),
 .o 12 (.mv (.k 1)),
 .o 13 (.call n_c_ref03_Key [.k 12]),
 .o 14 (.bin .gtr (.k 11) (.k 13))] false [14] [])
 (.cond 14 (.seq (.reg [] [.o 4 (.mv (.c (.i .i64 1)))] false [4] [])
 .ret)
 .skip))
 (.seq (.reg [] [.o 4 (.mv (.c (.i .i64 0)))] false [4] [])
 .ret))))⟩

def F_c_ref03_Bits : F := ⟨1,[.inl 2],
 (.seq (.reg [] [.o 2 (.mv (.c (.i .u64 0)))] false [0] [])
 (.seq (.seq (.reg [] [.o 3 (.mv (.t 0)),
 .o 4 (.bin .rem (.k 3) (.c (.i .u64 9223372036854775808))),
 .o 5 (.bin .gtr (.k 4) (.c (.i .u64 9218868437227405312)))] false [0,5] [])
 (.cond 5 (.seq (.reg [] [.o 2 (.mv (.c (.i .u64 9221120237041090560)))] false [2] [])
 .ret)
 .skip))
 (.seq (.reg [] [.o 6 (.mv (.k 0)),
 .o 2 (.mv (.k 6))] false [2] [])
 .ret)))⟩

def F_c_law03_F : F := ⟨1,[.inl 2],
 (.seq (.reg [] [.o 2 (.mv (.c (.f .f64 0)))] false [0] [])
 (.seq (.reg [] [.o 3 (.mv (.k 0)),
 .o 4 (.frbits (.k 3)),
 .o 2 (.mv (.k 4))] false [2] [])
 .ret))⟩

def F_container_heap_Init : F := ⟨1,[],
 (.seq (.reg [] [.o 4 (.mv (.t 0)),
 .o 5 (.inv "Len" (.k 4) []),
 .o 2 (.mv (.k 5))] false [0,2] [])
 (.seq (.reg [] [.o 6 (.mv (.t 2)),
 .o 7 (.bin .quo (.k 6) (.c (.i .i64 2))),
 .o 8 (.bin .sub (.k 7) (.c (.i .i64 1))),
 .o 3 (.mv (.k 8))] false [0,2,3] [])
 (.blk 0 (.loop (.seq (.seq (.reg [] [.o 9 (.mv (.t 3)),
 .o 10 (.bin .geq (.k 9) (.c (.i .i64 0)))] false [0,2,3,10] [])
 (.cond 10 .skip
 (.exit 0)))
 (.seq (.blk 1 (.reg [] [.o 13 (.mv (.t 0)),
 .o 14 (.mv (.t 3)),
 .o 15 (.mv (.t 2)),
 .o 16 (.call n_container_heap_down [.k 13,.k 14,.k 15])] false [0,2,3] []))
 (.reg [] [.o 11 (.mv (.k 3)),
 .o 12 (.bin .sub (.k 11) (.c (.i .i64 1))),
 .o 3 (.mv (.k 12))] false [0,2,3] [])))))))⟩

def F_pile_Pile_Take : F := ⟨1,[.inr (2,true,2),.inl 3],
 (.seq (.reg [] [.o 2 (.al ([.f .f64 0,.i .i64 0])),
 .o 3 (.mv (.c (.b false)))] false [0,2] [2])
 (.seq (.seq (.reg [] [.o 4 (.mv (.t 0)),
 .o 5 (.nc (.k 4)),
 .o 6 (.fa 0 (.k 5)),
 .z 7 (.lda 1 (.k 6)) 1,
 .o 8 (.len false (.k 7)),
 .o 9 (.bin .eql (.k 8) (.c (.i .i64 0)))] false [0,2,9] [2])
 (.cond 9 (.seq (.reg [] [.o 10 (.bd ([.f .f64 0,.i .i64 0]) []),
 .s (.st 2 (.t 2) (.k 10)),
 .o 3 (.mv (.c (.b false)))] false [2,3] [2])
 .ret)
 .skip))
 (.seq (.reg [] [.o 11 (.mv (.k 0)),
 .o 12 (.nc (.k 11)),
 .o 13 (.fa 0 (.k 12)),
 .o 14 (.mi t_pile_items_u (.k 13)),
 .o 15 (.call n_container_heap_Pop [.k 14]),
 .o 16 (.ta t_pile_Item (.k 15)),
 .s (.st 2 (.t 2) (.k 16)),
 .o 3 (.mv (.c (.b true)))] false [2,3] [2])
 .ret)))⟩

def F_cell_Value_Clone : F := ⟨1,[.inr (2,true,2)],
 (.seq (.reg [.zz 0] [.o 1 (.bx (.k 0)),
 .o 2 (.al ([.i .i64 0,.l .o 2 []]))] false [1,2] [1,2])
 (.seq (.reg [] [.o 3 (.fa 0 (.t 1)),
 .o 4 (.ld false 1 .cp (.k 3)),
 .u 5 (.fa 1 (.t 1)) [0,1] 0,
 .u 6 (.ld false 1 .cp (.k 5)) [0,1] 0,
 .u 7 (.app 2 16 (.c (.l .o 2 [])) (.k 6)) [0,1] 1,
 .o 8 (.bd ([.i .i64 0,.l .o 2 []]) [(0,1,.k 4),(1,1,.k 7)]),
 .s (.st 2 (.t 2) (.k 8))] true [2] [2])
 .ret))⟩

def F_real_Key : F := ⟨1,[.inl 2],
 (.seq (.reg [] [.o 2 (.mv (.c (.i .u64 0)))] false [0] [])
 (.seq (.reg [] [.o 4 (.mv (.k 0)),
 .o 5 (.call n_real_Canon [.k 4]),
 .o 6 (.bits (.k 5)),
 .o 3 (.mv (.k 6))] false [3] [])
 (.seq (.seq (.reg [] [.o 7 (.mv (.t 3)),
 .o 8 (.bin .and (.k 7) (.c (.i .u64 9223372036854775808))),
 .o 9 (.bin .neq (.k 8) (.c (.i .u64 0)))] false [3,9] [])
 (.cond 9 (.seq (.reg [] [.o 10 (.mv (.k 3)),
 .o 11 (.un .xor (.k 10)),
 .o 2 (.mv (.k 11))] false [2] [])
 .ret)
 .skip))
 (.seq (.reg [] [.o 12 (.mv (.k 3)),
 .o 13 (.bin .or (.k 12) (.c (.i .u64 9223372036854775808))),
 .o 2 (.mv (.k 13))] false [2] [])
 .ret))))⟩

def F_c_ref08_insert : F := ⟨3,[.inr (6,true,1),.inr (7,true,17),.inr (8,true,4),.inl 9],
 (.seq (.reg [.zz 0,.zz 1] [.o 3 (.bx (.k 0)),
 .o 4 (.bx (.k 1)),
 .o 6 (.al ([.l .o 3 []])),
 .o 7 (.al ([.i .i64 0,.i .u64 0,.i .i64 0,.i .i64 0,.i .i64 0,.i .i64 0,.i .i64 0,.i .i64 0,.i .i64 0,.i .i64 0,.b false,.i .i64 0,.i .i64 0,.i .i64 0,.l .o 2 [],.i .i64 0,.l .o 2 []])),
 .o 8 (.al ([.b false,.i .u64 0,.i .i64 0,.i .i64 0])),
 .o 9 (.mv (.c (.b false)))] false [2,3,4,6,7,8] [3,4,6,7,8])
 (.seq (.reg [] [.o 13 (.fa 3 (.t 4)),
 .o 14 (.ld false 1 .cp (.k 13)),
 .o 15 (.mv (.k 2)),
 .o 16 (.call n_c_ref06_Into [.k 14,.k 15]),
 .o 10 (.mv (.k 16))] false [3,4,6,7,8,10] [3,4,6,7,8])
 (.seq (.seq (.reg [] [.o 17 (.fa 5 (.t 4)),
 .o 18 (.ld false 1 .cp (.k 17)),
 .o 19 (.bin .eql (.k 18) (.c (.i .i64 0)))] false [3,4,6,7,8,10,19] [3,4,6,7,8])
 (.cond 19 (.seq (.reg [] [.z 21 (.ld true 1 .cp (.t 3)) 2,
 .o 22 (.mv (.k 10)),
 .o 23 (.call n_c_ref05_Read [.k 21,.k 22]),
 .o 20 (.mv (.k 23)),
 .o 24 (.ex false 0 20),
 .o 25 (.ex false 1 20),
 .o 26 (.fa 11 (.t 4)),
 .s (.st 1 (.k 26) (.k 24)),
 .o 27 (.fa 13 (.t 4)),
 .s (.st 2 (.k 27) (.k 25))] false [3,4,6,7,8] [3,4,6,7,8])
 (.seq (.reg [] [.o 28 (.fa 5 (.t 4)),
 .s (.st 1 (.k 28) (.c (.i .i64 1)))] false [3,4,6,7,8] [3,4,6,7,8])
 (.seq (.reg [] [.o 29 (.ld true 1 .cp (.k 3)),
 .u 30 (.ld true 17 .cp (.t 4)) [0] 0,
 .u 31 (.bd ([.b false,.i .u64 0,.i .i64 0,.i .i64 0]) []) [0,1] 0,
 .u 32 (.fa 13 (.t 4)) [0,1,2] 0,
 .u 33 (.fa 1 (.k 32)) [0,1,2] 0,
 .u 34 (.ld false 1 .cp (.k 33)) [0,1,2] 0,
 .u 35 (.len false (.k 34)) [0,1,2] 0,
 .u 36 (.bin .gtr (.k 35) (.c (.i .i64 61))) [0,1,2] 0,
 ⟨none,none,.st 1 (.t 6) (.k 29),[1,2,3,4,5,6,7],0⟩,
 ⟨none,none,.st 17 (.t 7) (.k 30),[2,3,4,5,6,7],0⟩,
 ⟨none,none,.st 4 (.t 8) (.k 31),[3,4,5,6,7],0⟩,
 .o 9 (.mv (.k 36))] true [6,7,8,9] [6,7,8])
 .ret)))
 .skip))
 (.seq (.reg [] [.o 37 (.fa 5 (.t 4)),
 .s (.st 1 (.k 37) (.c (.i .i64 0)))] false [3,4,6,7,8,10] [3,4,6,7,8])
 (.seq (.reg [] [.z 39 (.ld true 1 .cp (.t 3)) 2,
 .u 40 (.mv (.k 10)) [0] 0,
 .u 41 (.fa 11 (.t 4)) [0,1] 0,
 .u 42 (.ld false 1 .cp (.k 41)) [0,1] 0,
 .u 43 (.fa 13 (.t 4)) [0,1,2,3] 0,
 .u 44 (.fa 1 (.k 43)) [0,1,2,3] 0,
 .u 45 (.ld false 1 .cp (.k 44)) [0,1,2,3] 2,
 .u 46 (.fa 1 (.t 4)) [0,1,2,3,4,5,6] 0,
 .u 47 (.ld true 2 .cp (.k 46)) [0,1,2,3,4,5,6] 0,
 .u 48 (.call n_c_ref04_With [.k 45,.k 47]) [0,1,2,3] 0,
 .u 49 (.bd ([.i .i64 0,.l .o 2 []]) [(1,1,.k 48)]) [0,1,2,3] 2,
 .o 50 (.call n_c_ref05_Write [.k 39,.k 40,.k 42,.k 49]),
 .o 38 (.mv (.k 50)),
 .o 51 (.ex false 0 38),
 .u 52 (.ex false 1 38) [13] 0,
 .u 11 (.al ([.l .o 3 []])) [0,1,2,3,4,5,6,7,8,9,10,11,12,13,14] 0,
 ⟨none,none,.st 1 (.t 11) (.k 51),[14],0⟩,
 .o 12 (.mv (.k 52))] true [3,4,6,7,8,11,12] [3,4,6,7,8,11])
 (.seq (.seq (.reg [] [.o 53 (.mv (.k 12)),
 .o 54 (.un .not (.k 53))] false [3,4,6,7,8,11,54] [3,4,6,7,8,11])
 (.cond 54 (.seq (.reg [] [.o 55 (.ld true 1 .cp (.k 3)),
 .u 56 (.ld true 17 .cp (.k 4)) [0] 0,
 .u 57 (.bd ([.b false,.i .u64 0,.i .i64 0,.i .i64 0]) []) [0,1] 0,
 ⟨none,none,.st 1 (.t 6) (.k 55),[1,2],0⟩,
 ⟨none,none,.st 17 (.t 7) (.k 56),[2],0⟩,
 .s (.st 4 (.t 8) (.k 57)),
 .o 9 (.mv (.c (.b false)))] true [6,7,8,9] [6,7,8])
 .ret)
 .skip))
 (.seq (.reg [] [.o 58 (.ld true 1 .cp (.k 11)),
 .u 59 (.ld true 17 .cp (.t 4)) [0] 0,
 .u 60 (.fa 1 (.t 4)) [0,1] 0,
 .u 61 (.ld true 2 .cp (.k 60)) [0,1] 0,
 .u 62 (.bd ([.b false,.i .u64 0,.i .i64 0,.i .i64 0]) [(0,1,.c (.b true)),(1,2,.k 61)]) [0,1] 0,
 ⟨none,none,.st 1 (.t 6) (.k 58),[1,2,3,4],0⟩,
 ⟨none,none,.st 17 (.t 7) (.k 59),[2,3,4],0⟩,
 .s (.st 4 (.t 8) (.k 62)),
 .o 9 (.mv (.c (.b true)))] true [6,7,8,9] [6,7,8])
 .ret)))))))⟩

def F_c_ref05_Write : F := ⟨4,[.inr (8,true,1),.inl 9],
 (.seq (.reg [.zz 0,.zz 3] [.o 4 (.bx (.k 0)),
 .o 7 (.bx (.k 3)),
 .o 8 (.al ([.l .o 3 []])),
 .o 9 (.mv (.c (.b false)))] false [1,2,4,7,8] [4,7,8])
 (.seq (.reg [] [.z 13 (.ld true 1 .cp (.t 4)) 2,
 .o 14 (.mv (.t 1)),
 .o 15 (.call n_c_ref05_Read [.k 13,.k 14]),
 .o 12 (.mv (.k 15)),
 .o 16 (.ex false 0 12),
 .o 17 (.ex false 1 12),
 .o 11 (.al ([.i .i64 0,.l .o 2 []])),
 .o 10 (.mv (.k 16)),
 .s (.st 2 (.k 11) (.k 17))] false [1,2,4,7,8,10] [4,7,8])
 (.seq (.seq (.reg [] [.o 18 (.mv (.t 1)),
 .o 19 (.bin .lss (.k 18) (.c (.i .i64 0))),
 .o 20 (.mv (.k 19)),
 .c 20 false 21 (.mv (.t 1)),
 .c 20 false 22 (.bin .geq (.k 21) (.c (.i .i64 1000))),
 .o 23 (.pick (.k 20) (.c (.b true)) (.k 22)),
 .o 24 (.mv (.k 23)),
 .c 24 false 25 (.mv (.k 10)),
 .c 24 false 26 (.mv (.k 2)),
 .c 24 false 27 (.bin .neq (.k 25) (.k 26)),
 .o 28 (.pick (.k 24) (.c (.b true)) (.k 27))] false [1,4,7,8,28] [4,7,8])
 (.cond 28 (.seq (.reg [] [.o 29 (.ld true 1 .tk (.k 4)),
 .s (.st 1 (.t 8) (.k 29)),
 .o 9 (.mv (.c (.b false)))] false [8,9] [8])
 .ret)
 .skip))
 (.seq (.reg [] [.z 30 (.bs 3 0 (.a ([.i .i64 0,.i .i64 0,.l .o 2 []])) []) 1,
 .u 31 (.fa 0 (.k 4)) [0] 0,
 .u 32 (.ld false 1 .cp (.k 31)) [0] 0,
 .z 33 (.app 3 40 (.k 30) (.k 32)) 1,
 .u 34 (.mv (.k 1)) [0,1,2,3] 0,
 .u 35 (.ld true 2 .cp (.k 7)) [0,1,2,3,4] 0,
 .u 36 (.bd ([.i .i64 0,.i .i64 0,.l .o 2 []]) [(0,1,.k 34),(1,2,.k 35)]) [0,1,2,3] 0,
 .u 37 (.bs 3 1 (.a ([.i .i64 0,.i .i64 0,.l .o 2 []])) [(0,.k 36)]) [0,1,2,3] 0,
 .z 38 (.app 3 40 (.k 33) (.k 37)) 1,
 .o 39 (.bd ([.l .o 3 []]) [(0,1,.k 38)]),
 .s (.st 1 (.t 8) (.k 39)),
 .o 9 (.mv (.c (.b true)))] true [8,9] [8])
 .ret))))⟩

def F_c_ref09_enq : F := ⟨3,[.inr (6,true,1),.inr (7,true,17),.inr (8,true,4),.inl 9],
 (.seq (.reg [.zz 0,.zz 1] [.o 3 (.bx (.k 0)),
 .o 4 (.bx (.k 1)),
 .o 6 (.al ([.l .o 3 []])),
 .o 7 (.al ([.i .i64 0,.i .u64 0,.i .i64 0,.i .i64 0,.i .i64 0,.i .i64 0,.i .i64 0,.i .i64 0,.i .i64 0,.i .i64 0,.b false,.i .i64 0,.i .i64 0,.i .i64 0,.l .o 2 [],.i .i64 0,.l .o 2 []])),
 .o 8 (.al ([.b false,.i .u64 0,.i .i64 0,.i .i64 0])),
 .o 9 (.mv (.c (.b false)))] false [2,3,4,6,7,8] [3,4,6,7,8])
 (.seq (.seq (.reg [] [.o 14 (.fa 5 (.t 4)),
 .o 15 (.ld false 1 .cp (.k 14))] false [2,3,4,6,7,8,15] [3,4,6,7,8])
 (.blk 0 (.seq (.reg [] [.o 17 (.bin .eql (.t 15) (.c (.i .i64 0))),
 .o 16 (.mv (.k 17))] false [2,3,4,6,7,8,15,16] [3,4,6,7,8])
 (.cond 16 (.seq (.reg [] [.z 19 (.ld true 1 .cp (.t 3)) 2,
 .o 20 (.call n_c_ref05_Read [.k 19,.c (.i .i64 1)]),
 .o 18 (.mv (.k 20)),
 .o 21 (.ex false 0 18),
 .o 22 (.ex false 1 18),
 .o 23 (.fa 11 (.t 4)),
 .s (.st 1 (.k 23) (.k 21)),
 .o 24 (.fa 13 (.t 4)),
 .s (.st 2 (.k 24) (.k 22))] false [2,3,4,6,7,8] [3,4,6,7,8])
 (.seq (.reg [] [.o 25 (.fa 13 (.t 4)),
 .o 26 (.fa 0 (.k 25)),
 .o 27 (.ld false 1 .cp (.k 26)),
 .o 28 (.fa 8 (.t 4)),
 .s (.st 1 (.k 28) (.k 27))] false [2,3,4,6,7,8] [3,4,6,7,8])
 (.seq (.reg [] [.o 29 (.fa 3 (.t 4)),
 .o 30 (.ld false 1 .cp (.k 29)),
 .o 31 (.mv (.t 2)),
 .o 32 (.call n_c_ref06_Into [.k 30,.k 31]),
 .o 33 (.fa 6 (.t 4)),
 .s (.st 1 (.k 33) (.k 32)),
 .o 34 (.fa 7 (.t 4)),
 .s (.st 1 (.k 34) (.c (.i .i64 0))),
 .o 35 (.fa 5 (.t 4)),
 .s (.st 1 (.k 35) (.c (.i .i64 1)))] false [2,3,4,6,7,8] [3,4,6,7,8])
 (.seq (.reg [] [.o 36 (.ld true 1 .cp (.k 3)),
 .u 37 (.ld true 17 .cp (.t 4)) [0] 0,
 .u 38 (.bd ([.b false,.i .u64 0,.i .i64 0,.i .i64 0]) []) [0,1] 0,
 .u 39 (.fa 8 (.t 4)) [0,1,2] 0,
 .u 40 (.ld false 1 .cp (.k 39)) [0,1,2] 0,
 .u 41 (.bin .add (.k 40) (.c (.i .i64 1))) [0,1,2] 0,
 .u 42 (.mv (.k 2)) [0,1,2,3,4,5] 0,
 .u 43 (.call n_c_ref09_Slot [.k 41,.c (.i .i64 0),.k 42]) [0,1,2] 0,
 .u 44 (.bin .gtr (.k 43) (.c (.i .i64 1000))) [0,1,2] 0,
 ⟨none,none,.st 1 (.t 6) (.k 36),[1,2,8],0⟩,
 ⟨none,none,.st 17 (.t 7) (.k 37),[2,8],0⟩,
 ⟨none,none,.st 4 (.t 8) (.k 38),[8],0⟩,
 .o 9 (.mv (.k 44))] true [6,7,8,9] [6,7,8])
 .ret))))
 (.seq (.reg [] [.o 46 (.bin .eql (.t 15) (.c (.i .i64 1))),
 .o 45 (.mv (.k 46))] false [2,3,4,6,7,8,15,45] [3,4,6,7,8])
 (.cond 45 (.seq (.reg [] [.z 48 (.ld true 1 .cp (.t 3)) 2,
 .u 49 (.ld true 17 .cp (.t 4)) [0] 2,
 .u 50 (.mv (.t 2)) [0,1] 0,
 .u 51 (.call n_c_ref09_slot [.k 49,.k 50]) [0] 0,
 .o 52 (.call n_c_ref05_Read [.k 48,.k 51]),
 .o 47 (.mv (.k 52)),
 .o 53 (.ex false 0 47),
 .u 54 (.ex false 1 47) [6] 0,
 .u 55 (.fa 12 (.t 4)) [7] 0,
 ⟨none,none,.st 1 (.k 55) (.k 53),[7],0⟩,
 .o 56 (.fa 15 (.t 4)),
 .s (.st 2 (.k 56) (.k 54))] true [2,3,4,6,7,8] [3,4,6,7,8])
 (.seq (.seq (.reg [] [.o 57 (.fa 15 (.t 4)),
 .o 58 (.fa 0 (.k 57)),
 .o 59 (.ld false 1 .cp (.k 58)),
 .o 60 (.bin .eql (.k 59) (.c (.i .i64 0)))] false [2,3,4,6,7,8,60] [3,4,6,7,8])
 (.cond 60 (.reg [] [.o 61 (.fa 5 (.t 4)),
 .s (.st 1 (.k 61) (.c (.i .i64 2)))] false [3,4,6,7,8] [3,4,6,7,8])
 (.seq (.reg [] [.o 62 (.fa 7 (.t 4)),
 .o 63 (.ld false 1 .cp (.k 62)),
 .o 64 (.bin .add (.k 63) (.c (.i .i64 1))),
 .o 65 (.fa 7 (.t 4)),
 .s (.st 1 (.k 65) (.k 64))] false [2,3,4,6,7,8] [3,4,6,7,8])
 (.seq (.reg [] [.o 66 (.fa 7 (.t 4)),
 .o 67 (.ld false 1 .cp (.k 66)),
 .o 68 (.mv (.k 2)),
 .o 69 (.bin .eql (.k 67) (.k 68))] false [3,4,6,7,8,69] [3,4,6,7,8])
 (.cond 69 (.reg [] [.o 70 (.fa 5 (.t 4)),
 .s (.st 1 (.k 70) (.c (.i .i64 3)))] false [3,4,6,7,8] [3,4,6,7,8])
 .skip)))))
 (.seq (.reg [] [.o 71 (.ld true 1 .cp (.k 3)),
 .u 72 (.ld true 17 .cp (.k 4)) [0] 0,
 .u 73 (.bd ([.b false,.i .u64 0,.i .i64 0,.i .i64 0]) []) [0,1] 0,
 ⟨none,none,.st 1 (.t 6) (.k 71),[1,2],0⟩,
 ⟨none,none,.st 17 (.t 7) (.k 72),[2],0⟩,
 .s (.st 4 (.t 8) (.k 73)),
 .o 9 (.mv (.c (.b false)))] true [6,7,8,9] [6,7,8])
 .ret)))
 (.seq (.reg [] [.o 75 (.bin .eql (.k 15) (.c (.i .i64 2))),
 .o 74 (.mv (.k 75))] false [2,3,4,6,7,8,74] [3,4,6,7,8])
 (.cond 74 (.seq (.reg [] [.z 77 (.ld true 1 .cp (.k 3)) 2,
 .u 78 (.ld true 17 .cp (.t 4)) [0] 2,
 .u 79 (.mv (.k 2)) [0,1] 0,
 .u 80 (.call n_c_ref09_slot [.k 78,.k 79]) [0] 0,
 .u 81 (.fa 12 (.t 4)) [0,1,2,3] 0,
 .u 82 (.ld false 1 .cp (.k 81)) [0,1,2,3] 0,
 .u 83 (.fa 1 (.t 4)) [0,1,2,3,4,5] 0,
 .u 84 (.ld true 2 .cp (.k 83)) [0,1,2,3,4,5] 0,
 .u 85 (.bs 2 1 (.a ([.i .u64 0,.i .i64 0])) [(0,.k 84)]) [0,1,2,3,4,5] 1,
 .u 86 (.bd ([.i .i64 0,.l .o 2 []]) [(0,1,.c (.i .i64 1)),(1,1,.k 85)]) [0,1,2,3,4,5] 2,
 .o 87 (.call n_c_ref05_Write [.k 77,.k 80,.k 82,.k 86]),
 .o 76 (.mv (.k 87)),
 .o 88 (.ex false 0 76),
 .u 89 (.ex false 1 76) [12] 0,
 .u 10 (.al ([.l .o 3 []])) [0,1,2,3,4,5,6,7,8,9,10,11,12,13] 0,
 ⟨none,none,.st 1 (.t 10) (.k 88),[13],0⟩,
 .o 11 (.mv (.k 89))] true [4,6,7,8,10,11] [4,6,7,8,10])
 (.seq (.seq (.reg [] [.o 90 (.mv (.k 11))] false [4,6,7,8,10,90] [4,6,7,8,10])
 (.cond 90 (.seq (.reg [] [.o 91 (.ld true 1 .cp (.k 10)),
 .u 92 (.ld true 17 .cp (.t 4)) [0] 0,
 .u 93 (.fa 1 (.t 4)) [0,1] 0,
 .u 94 (.ld true 2 .cp (.k 93)) [0,1] 0,
 .u 95 (.bd ([.b false,.i .u64 0,.i .i64 0,.i .i64 0]) [(0,1,.c (.b true)),(1,2,.k 94)]) [0,1] 0,
 ⟨none,none,.st 1 (.t 6) (.k 91),[1,2,3,4],0⟩,
 ⟨none,none,.st 17 (.t 7) (.k 92),[2,3,4],0⟩,
 .s (.st 4 (.t 8) (.k 95)),
 .o 9 (.mv (.c (.b true)))] true [6,7,8,9] [6,7,8])
 .ret)
 .skip))
 (.seq (.reg [] [.z 96 (.ld true 1 .tk (.k 10)) 2,
 .z 97 (.ld true 17 .tk (.k 4)) 2,
 .o 98 (.call n_c_ref09_again [.k 96,.k 97]),
 .o 99 (.ex false 0 98),
 .o 100 (.ex false 1 98),
 .o 101 (.ex false 2 98),
 .o 102 (.ex false 3 98),
 .s (.st 1 (.t 6) (.k 99)),
 .s (.st 17 (.t 7) (.k 100)),
 .s (.st 4 (.t 8) (.k 101)),
 .o 9 (.mv (.k 102))] false [6,7,8,9] [6,7,8])
 .ret)))
 .skip))))))))
 (.seq (.reg [] [.z 104 (.ld true 1 .tk (.k 3)) 2,
 .o 105 (.fa 11 (.t 4)),
 .o 106 (.ld false 1 .cp (.k 105)),
 .o 107 (.fa 8 (.t 4)),
 .o 108 (.ld false 1 .cp (.k 107)),
 .o 109 (.bin .add (.k 108) (.c (.i .i64 1))),
 .z 110 (.bd ([.i .i64 0,.l .o 2 []]) [(0,1,.k 109)]) 2,
 .o 111 (.call n_c_ref05_Write [.k 104,.c (.i .i64 1),.k 106,.k 110]),
 .o 103 (.mv (.k 111)),
 .o 112 (.ex false 0 103),
 .o 113 (.ex false 1 103),
 .o 12 (.al ([.l .o 3 []])),
 .s (.st 1 (.t 12) (.k 112)),
 .o 13 (.mv (.k 113))] false [4,6,7,8,12] [4,6,7,8,12])
 (.seq (.reg [] [.z 114 (.ld true 1 .tk (.k 12)) 2,
 .z 115 (.ld true 17 .tk (.k 4)) 2,
 .o 116 (.call n_c_ref09_again [.k 114,.k 115]),
 .o 117 (.ex false 0 116),
 .o 118 (.ex false 1 116),
 .o 119 (.ex false 2 116),
 .o 120 (.ex false 3 116),
 .s (.st 1 (.t 6) (.k 117)),
 .s (.st 17 (.t 7) (.k 118)),
 .s (.st 4 (.t 8) (.k 119)),
 .o 9 (.mv (.k 120))] false [6,7,8,9] [6,7,8])
 .ret))))⟩

def F_c_ref09_look : F := ⟨3,[.inr (6,true,1),.inr (7,true,17),.inr (8,true,4),.inl 9],
 (.seq (.reg [.zz 0,.zz 1] [.o 3 (.bx (.k 0)),
 .o 4 (.bx (.k 1)),
 .o 6 (.al ([.l .o 3 []])),
 .o 7 (.al ([.i .i64 0,.i .u64 0,.i .i64 0,.i .i64 0,.i .i64 0,.i .i64 0,.i .i64 0,.i .i64 0,.i .i64 0,.i .i64 0,.b false,.i .i64 0,.i .i64 0,.i .i64 0,.l .o 2 [],.i .i64 0,.l .o 2 []])),
 .o 8 (.al ([.b false,.i .u64 0,.i .i64 0,.i .i64 0])),
 .o 9 (.mv (.c (.b false)))] false [2,3,4,6,7,8] [3,4,6,7,8])
 (.seq (.reg [] [.z 13 (.ld true 1 .cp (.t 3)) 2,
 .u 14 (.ld true 17 .cp (.t 4)) [0] 2,
 .u 15 (.mv (.t 2)) [0,1] 0,
 .u 16 (.call n_c_ref09_slot [.k 14,.k 15]) [0] 0,
 .o 17 (.call n_c_ref05_Read [.k 13,.k 16]),
 .o 12 (.mv (.k 17)),
 .o 18 (.ex false 0 12),
 .u 19 (.ex false 1 12) [6] 0,
 .u 11 (.al ([.i .i64 0,.l .o 2 []])) [0,1,2,3,4,5,6,7] 0,
 .u 10 (.mv (.k 18)) [7] 0,
 .s (.st 2 (.t 11) (.k 19))] true [2,3,4,6,7,8,10,11] [3,4,6,7,8,11])
 (.seq (.seq (.reg [] [.o 20 (.fa 0 (.t 11)),
 .o 21 (.ld false 1 .cp (.k 20)),
 .o 22 (.bin .eql (.k 21) (.c (.i .i64 1)))] false [2,3,4,6,7,8,10,11,22] [3,4,6,7,8,11])
 (.cond 22 (.seq (.reg [] [.o 23 (.mv (.k 10)),
 .u 24 (.ld true 2 .cp (.k 11)) [0] 0,
 .u 25 (.fa 12 (.t 4)) [1] 0,
 ⟨none,none,.st 1 (.k 25) (.k 23),[1],0⟩,
 .o 26 (.fa 15 (.t 4)),
 .s (.st 2 (.k 26) (.k 24)),
 .o 27 (.fa 5 (.t 4)),
 .s (.st 1 (.k 27) (.c (.i .i64 3)))] true [3,4,6,7,8] [3,4,6,7,8])
 (.seq (.reg [] [.o 28 (.ld true 1 .cp (.k 3)),
 .u 29 (.ld true 17 .cp (.k 4)) [0] 0,
 .u 30 (.bd ([.b false,.i .u64 0,.i .i64 0,.i .i64 0]) []) [0,1] 0,
 ⟨none,none,.st 1 (.t 6) (.k 28),[1,2],0⟩,
 ⟨none,none,.st 17 (.t 7) (.k 29),[2],0⟩,
 .s (.st 4 (.t 8) (.k 30)),
 .o 9 (.mv (.c (.b false)))] true [6,7,8,9] [6,7,8])
 .ret))
 .skip))
 (.seq (.reg [] [.o 31 (.fa 10 (.t 4)),
 .o 32 (.ld false 1 .cp (.k 31)),
 .o 33 (.mv (.k 32)),
 .c 33 false 34 (.fa 0 (.k 11)),
 .c 33 false 35 (.ld false 1 .cp (.k 34)),
 .c 33 false 36 (.bin .eql (.k 35) (.c (.i .i64 0))),
 .o 37 (.pick (.k 33) (.c (.b true)) (.k 36)),
 .o 38 (.fa 10 (.t 4)),
 .s (.st 1 (.k 38) (.k 37))] false [2,3,4,6,7,8] [3,4,6,7,8])
 (.seq (.reg [] [.o 39 (.fa 7 (.t 4)),
 .o 40 (.ld false 1 .cp (.k 39)),
 .o 41 (.bin .add (.k 40) (.c (.i .i64 1))),
 .o 42 (.fa 7 (.t 4)),
 .s (.st 1 (.k 42) (.k 41))] false [2,3,4,6,7,8] [3,4,6,7,8])
 (.seq (.seq (.reg [] [.o 43 (.fa 7 (.t 4)),
 .o 44 (.ld false 1 .cp (.k 43)),
 .o 45 (.mv (.k 2)),
 .o 46 (.bin .lss (.k 44) (.k 45))] false [3,4,6,7,8,46] [3,4,6,7,8])
 (.cond 46 (.seq (.reg [] [.o 47 (.ld true 1 .cp (.k 3)),
 .u 48 (.ld true 17 .cp (.k 4)) [0] 0,
 .u 49 (.bd ([.b false,.i .u64 0,.i .i64 0,.i .i64 0]) []) [0,1] 0,
 ⟨none,none,.st 1 (.t 6) (.k 47),[1,2],0⟩,
 ⟨none,none,.st 17 (.t 7) (.k 48),[2],0⟩,
 .s (.st 4 (.t 8) (.k 49)),
 .o 9 (.mv (.c (.b false)))] true [6,7,8,9] [6,7,8])
 .ret)
 .skip))
 (.seq (.seq (.reg [] [.o 50 (.fa 10 (.t 4)),
 .o 51 (.ld false 1 .cp (.k 50))] false [3,4,6,7,8,51] [3,4,6,7,8])
 (.cond 51 (.seq (.reg [] [.o 52 (.ld true 1 .cp (.k 3)),
 .u 53 (.ld true 17 .cp (.k 4)) [0] 0,
 .u 54 (.bd ([.b false,.i .u64 0,.i .i64 0,.i .i64 0]) []) [0,1] 0,
 ⟨none,none,.st 1 (.t 6) (.k 52),[1,2],0⟩,
 ⟨none,none,.st 17 (.t 7) (.k 53),[2],0⟩,
 .s (.st 4 (.t 8) (.k 54)),
 .o 9 (.mv (.c (.b true)))] true [6,7,8,9] [6,7,8])
 .ret)
 .skip))
 (.seq (.reg [] [.o 55 (.fa 5 (.t 4)),
 .s (.st 1 (.k 55) (.c (.i .i64 5)))] false [3,4,6,7,8] [3,4,6,7,8])
 (.seq (.seq (.reg [] [.o 56 (.fa 15 (.t 4)),
 .o 57 (.fa 0 (.k 56)),
 .o 58 (.ld false 1 .cp (.k 57)),
 .o 59 (.fa 8 (.t 4)),
 .o 60 (.ld false 1 .cp (.k 59)),
 .o 61 (.bin .eql (.k 58) (.k 60))] false [3,4,6,7,8,61] [3,4,6,7,8])
 (.cond 61 (.reg [] [.o 62 (.fa 5 (.t 4)),
 .s (.st 1 (.k 62) (.c (.i .i64 4)))] false [3,4,6,7,8] [3,4,6,7,8])
 .skip))
 (.seq (.reg [] [.o 63 (.ld true 1 .cp (.k 3)),
 .u 64 (.ld true 17 .cp (.k 4)) [0] 0,
 .u 65 (.bd ([.b false,.i .u64 0,.i .i64 0,.i .i64 0]) []) [0,1] 0,
 ⟨none,none,.st 1 (.t 6) (.k 63),[1,2],0⟩,
 ⟨none,none,.st 17 (.t 7) (.k 64),[2],0⟩,
 .s (.st 4 (.t 8) (.k 65)),
 .o 9 (.mv (.c (.b false)))] true [6,7,8,9] [6,7,8])
 .ret))))))))))⟩

def F_c_ref09_slot : F := ⟨2,[.inl 4],
 (.seq (.reg [.zz 0] [.o 2 (.bx (.k 0)),
 .o 4 (.mv (.c (.i .i64 0)))] false [1,2] [2])
 (.seq (.reg [] [.o 5 (.fa 8 (.t 2)),
 .o 6 (.ld false 1 .cp (.k 5)),
 .u 7 (.fa 6 (.t 2)) [0,1] 0,
 .u 8 (.ld false 1 .cp (.k 7)) [0,1] 0,
 .u 9 (.fa 7 (.t 2)) [0,1,2,3] 0,
 .u 10 (.ld false 1 .cp (.k 9)) [0,1,2,3] 0,
 .u 11 (.bin .add (.k 8) (.k 10)) [0,1] 0,
 .u 12 (.mv (.t 1)) [0,1,2,3,4,5,6] 0,
 .u 13 (.bin .rem (.k 11) (.k 12)) [0,1] 0,
 .u 14 (.mv (.t 1)) [0,1,2,3,4,5,6,7,8] 0,
 .o 15 (.call n_c_ref09_Slot [.k 6,.k 13,.k 14]),
 .o 4 (.mv (.k 15))] true [4] [])
 .ret))⟩

def F_c_ref09_again : F := ⟨2,[.inr (4,true,1),.inr (5,true,17),.inr (6,true,4),.inl 7],
 (.seq (.reg [.zz 0,.zz 1] [.o 2 (.bx (.k 0)),
 .o 3 (.bx (.k 1)),
 .o 4 (.al ([.l .o 3 []])),
 .o 5 (.al ([.i .i64 0,.i .u64 0,.i .i64 0,.i .i64 0,.i .i64 0,.i .i64 0,.i .i64 0,.i .i64 0,.i .i64 0,.i .i64 0,.b false,.i .i64 0,.i .i64 0,.i .i64 0,.l .o 2 [],.i .i64 0,.l .o 2 []])),
 .o 6 (.al ([.b false,.i .u64 0,.i .i64 0,.i .i64 0])),
 .o 7 (.mv (.c (.b false)))] false [2,3,4,5,6] [2,3,4,5,6])
 (.seq (.reg [] [.o 8 (.fa 5 (.t 3)),
 .s (.st 1 (.k 8) (.c (.i .i64 0)))] false [2,3,4,5,6] [2,3,4,5,6])
 (.seq (.reg [] [.o 9 (.ld true 1 .cp (.k 2)),
 .u 10 (.ld true 17 .cp (.k 3)) [0] 0,
 .u 11 (.bd ([.b false,.i .u64 0,.i .i64 0,.i .i64 0]) []) [0,1] 0,
 ⟨none,none,.st 1 (.t 4) (.k 9),[1,2],0⟩,
 ⟨none,none,.st 17 (.t 5) (.k 10),[2],0⟩,
 .s (.st 4 (.t 6) (.k 11)),
 .o 7 (.mv (.c (.b false)))] true [4,5,6,7] [4,5,6])
 .ret)))⟩

def F_c_ref11_more : F := ⟨2,[.inr (4,true,1),.inl 5],
 (.seq (.reg [.zz 0] [.o 2 (.bx (.k 0)),
 .o 4 (.al ([.l .o 3 []])),
 .o 5 (.mv (.c (.i .i64 0)))] false [1,2,4] [2,4])
 (.seq (.reg [] [.z 11 (.ld true 1 .cp (.t 2)) 2,
 .o 12 (.mv (.t 1)),
 .o 13 (.call n_c_ref05_Read [.k 11,.k 12]),
 .o 10 (.mv (.k 13)),
 .o 14 (.ex false 0 10),
 .o 15 (.ex false 1 10),
 .o 7 (.al ([.i .i64 0,.l .o 2 []])),
 .o 6 (.mv (.k 14)),
 .s (.st 2 (.t 7) (.k 15))] false [1,2,4,6,7] [2,4,7])
 (.seq (.reg [] [.z 17 (.ld true 1 .tk (.k 2)) 2,
 .o 18 (.mv (.k 1)),
 .o 19 (.mv (.k 6)),
 .o 20 (.fa 0 (.t 7)),
 .o 21 (.ld false 1 .cp (.k 20)),
 .o 22 (.bin .add (.k 21) (.c (.i .i64 1))),
 .z 23 (.bd ([.i .i64 0,.l .o 2 []]) [(0,1,.k 22)]) 2,
 .o 24 (.call n_c_ref05_Write [.k 17,.k 18,.k 19,.k 23]),
 .o 16 (.mv (.k 24)),
 .o 25 (.ex false 0 16),
 .o 26 (.ex false 1 16),
 .o 8 (.al ([.l .o 3 []])),
 .s (.st 1 (.t 8) (.k 25)),
 .o 9 (.mv (.k 26))] false [4,7,8] [4,7,8])
 (.seq (.reg [] [.o 27 (.ld true 1 .cp (.k 8)),
 .u 28 (.fa 0 (.k 7)) [0] 0,
 .u 29 (.ld false 1 .cp (.k 28)) [0] 0,
 ⟨none,none,.st 1 (.t 4) (.k 27),[1,2],0⟩,
 .o 5 (.mv (.k 29))] true [4,5] [4])
 .ret))))⟩

def F_c_ref04_Make : F := ⟨2,[.inr (4,true,2)],
 (.seq (.reg [] [.o 4 (.al ([.i .u64 0,.i .i64 0]))] false [0,1,4] [4])
 (.seq (.reg [] [.o 5 (.mv (.k 0)),
 .o 6 (.call n_c_ref03_Bits [.k 5]),
 .o 7 (.mv (.k 1)),
 .o 8 (.bd ([.i .u64 0,.i .i64 0]) [(0,1,.k 6),(1,1,.k 7)]),
 .s (.st 2 (.t 4) (.k 8))] false [4] [4])
 .ret))⟩

def F_wire_Plan_count : F := ⟨2,[.inl 4],
 (.seq (.reg [.zz 1] [.o 4 (.mv (.c (.l .o 1 [])))] false [0,1] [])
 (.seq (.reg [] [.o 6 (.mv (.t 1)),
 .o 7 (.len false (.k 6)),
 .o 8 (.bin .quo (.k 7) (.c (.i .i64 2))),
 .o 5 (.mv (.k 8))] false [0,1,5] [])
 (.seq (.seq (.reg [] [.o 9 (.mv (.t 5)),
 .o 10 (.bin .eql (.k 9) (.c (.i .i64 0)))] false [0,1,5,10] [])
 (.cond 10 (.seq (.reg [] [.o 11 (.mv (.k 1)),
 .o 4 (.mv (.k 11))] false [4] [])
 .ret)
 .skip))
 (.seq (.reg [] [.o 12 (.mv (.t 0)),
 .u 13 (.mv (.t 0)) [0] 0,
 .u 14 (.mv (.t 1)) [0,1] 0,
 .u 15 (.mv (.t 5)) [0,1,2] 0,
 .u 16 (.sl 1 (.k 14) none (some (.k 15)) none) [0,1] 2,
 .u 17 (.call n_wire_Plan_count [.k 13,.k 16]) [0] 2,
 .u 18 (.mv (.t 0)) [0,1,2,3,4,5] 0,
 .u 19 (.mv (.t 1)) [0,1,2,3,4,5,6] 0,
 .u 20 (.mv (.t 5)) [0,1,2,3,4,5,6,7] 0,
 .u 21 (.sl 1 (.k 19) (some (.k 20)) none none) [0,1,2,3,4,5,6] 2,
 .u 22 (.call n_wire_Plan_count [.k 18,.k 21]) [0] 2,
 .o 23 (.call n_wire_Plan_merge [.k 12,.k 17,.k 22]),
 .o 4 (.mv (.k 23))] true [4] [])
 .ret))))⟩

def F_c_ref10_pick : F := ⟨2,[.inl 4],
 (.seq (.reg [.zz 0] [.o 4 (.mv (.c (.l .o 1 [])))] false [0,1] [])
 (.seq (.reg [] [.z 7 (.bs 1 0 (.i .i64 0) []) 1,
 .o 5 (.mv (.k 7))] false [0,1,5] [])
 (.seq (.seq (.reg [] [.o 8 (.mv (.t 0)),
 .o 9 (.len false (.k 8)),
 .o 10 (.mv (.c (.i .i64 0)))] false [0,1,5,9,10] [])
 (.blk 0 (.loop (.seq (.reg [] [.o 11 (.bin .lss (.t 10) (.t 9))] false [0,1,5,9,10,11] [])
 (.seq (.cond 11 .skip
 (.exit 0))
 (.seq (.blk 1 (.seq (.reg [] [.o 12 (.mv (.t 10)),
 .o 6 (.mv (.k 12))] false [0,1,5,6,9,10] [])
 (.seq (.reg [] [.o 13 (.mv (.t 6)),
 .o 14 (.bin .rem (.k 13) (.c (.i .i64 2))),
 .o 15 (.mv (.t 1)),
 .o 16 (.bin .eql (.k 14) (.k 15))] false [0,1,5,6,9,10,16] [])
 (.cond 16 (.reg [] [.o 17 (.mv (.k 5)),
 .o 18 (.mv (.t 0)),
 .o 19 (.mv (.k 6)),
 .o 20 (.ia 1 none (.k 18) (.k 19)),
 .o 21 (.ld false 1 .cp (.k 20)),
 .o 22 (.bs 1 1 (.i .i64 0) [(0,.k 21)]),
 .z 23 (.app 1 8 (.k 17) (.k 22)) 1,
 .o 5 (.mv (.k 23))] false [0,1,5,9,10] [])
 .skip))))
 (.reg [] [.o 24 (.bin .add (.k 10) (.c (.i .i64 1))),
 .o 10 (.mv (.k 24))] false [0,1,5,9,10] [])))))))
 (.seq (.reg [] [.o 25 (.mv (.k 5)),
 .o 4 (.mv (.k 25))] false [4] [])
 .ret))))⟩

def F_c_ref03_Key : F := ⟨1,[.inl 2],
 (.seq (.reg [] [.o 2 (.mv (.c (.i .u64 0)))] false [0] [])
 (.seq (.reg [] [.o 3 (.mv (.k 0)),
 .o 4 (.call n_c_ref03_Bits [.k 3]),
 .o 0 (.mv (.k 4))] false [0] [])
 (.seq (.seq (.reg [] [.o 5 (.mv (.t 0)),
 .o 6 (.bin .geq (.k 5) (.c (.i .u64 9223372036854775808)))] false [0,6] [])
 (.cond 6 (.seq (.reg [] [.o 7 (.mv (.k 0)),
 .o 8 (.bin .sub (.c (.i .u64 18446744073709551615)) (.k 7)),
 .o 2 (.mv (.k 8))] false [2] [])
 .ret)
 .skip))
 (.seq (.reg [] [.o 9 (.mv (.k 0)),
 .o 10 (.bin .add (.k 9) (.c (.i .u64 9223372036854775808))),
 .o 2 (.mv (.k 10))] false [2] [])
 .ret))))⟩

def F_cell_Memory_Write : F := ⟨4,[.inl 8],
 (.seq (.reg [.zz 3] [.o 7 (.bx (.k 3)),
 .o 8 (.mv (.c (.b false)))] false [0,1,2,7] [7])
 (.seq (.seq (.reg [] [.o 9 (.mv (.t 1)),
 .o 10 (.bin .lss (.k 9) (.c (.i .i64 0))),
 .o 11 (.mv (.k 10)),
 .c 11 false 12 (.mv (.t 1)),
 .c 11 false 13 (.bin .geq (.k 12) (.c (.i .i64 1000))),
 .o 14 (.pick (.k 11) (.c (.b true)) (.k 13)),
 .o 15 (.mv (.k 14)),
 .c 15 false 16 (.mv (.t 0)),
 .c 15 false 17 (.mv (.t 1)),
 .c 15 false 18 (.call n_cell_Memory_Read [.k 16,.k 17]),
 .c 15 false 19 (.fd false 0 1 (.k 18)),
 .c 15 false 20 (.mv (.k 2)),
 .c 15 false 21 (.bin .neq (.k 19) (.k 20)),
 .o 22 (.pick (.k 15) (.c (.b true)) (.k 21))] false [0,1,7,22] [7])
 (.cond 22 (.seq (.reg [] [.o 8 (.mv (.c (.b false)))] false [8] [])
 .ret)
 .skip))
 (.seq (.blk 0 (.loop (.seq (.seq (.reg [] [.o 23 (.mv (.t 0)),
 .o 24 (.nc (.k 23)),
 .o 25 (.fa 0 (.k 24)),
 .z 26 (.lda 1 (.k 25)) 1,
 .o 27 (.len false (.k 26)),
 .o 28 (.mv (.t 1)),
 .o 29 (.bin .leq (.k 27) (.k 28))] false [0,1,7,29] [7])
 (.cond 29 .skip
 (.exit 0)))
 (.blk 1 (.reg [] [.o 30 (.mv (.t 0)),
 .o 31 (.mv (.t 0)),
 .o 32 (.nc (.k 31)),
 .o 33 (.fa 0 (.k 32)),
 .o 34 (.ld false 1 .tk (.k 33)),
 .o 35 (.bd ([.i .u64 0,.i .i64 0,.l .o 2 []]) []),
 .o 36 (.bs 3 1 (.a ([.i .u64 0,.i .i64 0,.l .o 2 []])) [(0,.k 35)]),
 .o 37 (.app 3 40 (.k 34) (.k 36)),
 .o 38 (.nc (.k 30)),
 .o 39 (.fa 0 (.k 38)),
 .s (.st 1 (.k 39) (.k 37))] false [0,1,7] [7])))))
 (.seq (.reg [] [.o 40 (.mv (.t 0)),
 .o 41 (.nc (.t 40)),
 .o 42 (.fa 1 (.k 41)),
 .o 43 (.ld false 1 .cp (.k 42)),
 .o 44 (.bin .add (.k 43) (.c (.i .u64 1))),
 .o 45 (.nc (.k 40)),
 .o 46 (.fa 1 (.k 45)),
 .s (.st 1 (.k 46) (.k 44))] false [0,1,7] [7])
 (.seq (.reg [] [.o 47 (.mv (.t 0)),
 .o 48 (.nc (.k 47)),
 .o 49 (.fa 0 (.k 48)),
 .o 50 (.lda 1 (.k 49)),
 .u 51 (.mv (.k 1)) [0,1,2,3] 0,
 .u 52 (.mv (.t 0)) [0,1,2,3,4] 0,
 .u 53 (.nc (.k 52)) [0,1,2,3,4] 0,
 .u 54 (.fa 1 (.k 53)) [0,1,2,3,4] 0,
 .u 55 (.ld false 1 .cp (.k 54)) [0,1,2,3,4] 0,
 .u 56 (.ld true 2 .cp (.k 7)) [0,1,2,3,4,5,6,7,8] 2,
 .u 57 (.callp n_cell_Value_Clone [.k 56]) [0,1,2,3,4,5,6,7,8] 0,
 .u 58 (.bd ([.i .u64 0,.i .i64 0,.l .o 2 []]) [(0,1,.k 55),(1,2,.k 57)]) [0,1,2,3,4] 0,
 .o 59 (.ia 3 none (.k 50) (.k 51)),
 .s (.st 3 (.k 59) (.k 58))] true [] [])
 (.seq (.reg [] [.o 8 (.mv (.c (.b true)))] false [8] [])
 .ret))))))⟩

def F_kfifo_Queue_Slot : F := ⟨3,[.inl 6],
 (.seq (.reg [] [.o 3 (.bx (.k 0)),
 .o 6 (.mv (.c (.i .i64 0)))] false [1,2,3] [3])
 (.seq (.reg [] [.o 7 (.mv (.k 1)),
 .o 8 (.fa 0 (.k 3)),
 .o 9 (.ld false 1 .cp (.k 8)),
 .o 10 (.bin .mul (.k 7) (.k 9)),
 .o 11 (.bin .add (.c (.i .i64 2)) (.k 10)),
 .o 12 (.mv (.k 2)),
 .o 13 (.bin .add (.k 11) (.k 12)),
 .o 6 (.mv (.k 13))] false [6] [])
 .ret))⟩

def F_container_heap_down : F := ⟨3,[.inl 6],
 (.seq (.reg [] [.o 6 (.mv (.c (.b false)))] false [0,1,2] [])
 (.seq (.reg [] [.o 11 (.mv (.t 1)),
 .o 7 (.mv (.k 11))] false [0,1,2,7] [])
 (.seq (.blk 0 (.loop (.blk 1 (.seq (.reg [] [.o 12 (.mv (.t 7)),
 .o 13 (.bin .mul (.c (.i .i64 2)) (.k 12)),
 .o 14 (.bin .add (.k 13) (.c (.i .i64 1))),
 .o 8 (.mv (.k 14))] false [0,1,2,7,8] [])
 (.seq (.seq (.reg [] [.o 15 (.mv (.t 8)),
 .o 16 (.mv (.t 2)),
 .o 17 (.bin .geq (.k 15) (.k 16)),
 .o 18 (.mv (.k 17)),
 .c 18 false 19 (.mv (.t 8)),
 .c 18 false 20 (.bin .lss (.k 19) (.c (.i .i64 0))),
 .o 21 (.pick (.k 18) (.c (.b true)) (.k 20))] false [0,1,2,7,8,21] [])
 (.cond 21 (.exit 0)
 .skip))
 (.seq (.reg [] [.o 22 (.mv (.t 8)),
 .o 9 (.mv (.k 22))] false [0,1,2,7,8,9] [])
 (.seq (.seq (.reg [] [.o 23 (.mv (.t 8)),
 .o 24 (.bin .add (.k 23) (.c (.i .i64 1))),
 .o 10 (.mv (.k 24))] false [0,1,2,7,8,9,10] [])
 (.seq (.reg [] [.o 25 (.mv (.t 10)),
 .o 26 (.mv (.t 2)),
 .o 27 (.bin .lss (.k 25) (.k 26)),
 .o 28 (.mv (.k 27)),
 .c 28 true 29 (.mv (.t 0)),
 .c 28 true 30 (.mv (.t 10)),
 .c 28 true 31 (.mv (.k 8)),
 .c 28 true 32 (.inv "Less" (.k 29) [.k 30,.k 31]),
 .o 33 (.pick (.k 28) (.k 32) (.c (.b false)))] false [0,1,2,7,9,10,33] [])
 (.cond 33 (.reg [] [.o 34 (.mv (.k 10)),
 .o 9 (.mv (.k 34))] false [0,1,2,7,9] [])
 .skip)))
 (.seq (.seq (.reg [] [.o 35 (.mv (.t 0)),
 .o 36 (.mv (.t 9)),
 .o 37 (.mv (.t 7)),
 .o 38 (.inv "Less" (.k 35) [.k 36,.k 37]),
 .o 39 (.un .not (.k 38))] false [0,1,2,7,9,39] [])
 (.cond 39 (.exit 0)
 .skip))
 (.seq (.reg [] [.o 40 (.mv (.t 0)),
 .o 41 (.mv (.k 7)),
 .o 42 (.mv (.t 9)),
 .o 43 (.inv "Swap" (.k 40) [.k 41,.k 42])] false [0,1,2,9] [])
 (.reg [] [.o 44 (.mv (.k 9)),
 .o 7 (.mv (.k 44))] false [0,1,2,7] []))))))))))
 (.seq (.reg [] [.o 45 (.mv (.k 7)),
 .o 46 (.mv (.k 1)),
 .o 47 (.bin .gtr (.k 45) (.k 46)),
 .o 6 (.mv (.k 47))] false [6] [])
 .ret))))⟩

def F_container_heap_Pop : F := ⟨1,[.inl 2],
 (.seq (.reg [] [.o 2 (.mv (.c (.nili)))] false [0] [])
 (.seq (.reg [] [.o 4 (.mv (.t 0)),
 .o 5 (.inv "Len" (.k 4) []),
 .o 6 (.bin .sub (.k 5) (.c (.i .i64 1))),
 .o 3 (.mv (.k 6))] false [0,3] [])
 (.seq (.reg [] [.o 7 (.mv (.t 0)),
 .o 8 (.mv (.t 3)),
 .o 9 (.inv "Swap" (.k 7) [.c (.i .i64 0),.k 8])] false [0,3] [])
 (.seq (.reg [] [.o 10 (.mv (.t 0)),
 .o 11 (.mv (.k 3)),
 .o 12 (.call n_container_heap_down [.k 10,.c (.i .i64 0),.k 11])] false [0] [])
 (.seq (.reg [] [.o 13 (.mv (.k 0)),
 .o 14 (.inv "Pop" (.k 13) []),
 .o 2 (.mv (.k 14))] false [2] [])
 .ret)))))⟩

def F_c_ref09_Slot : F := ⟨3,[.inl 6],
 (.seq (.reg [] [.o 6 (.mv (.c (.i .i64 0)))] false [0,1,2] [])
 (.seq (.reg [] [.o 7 (.mv (.k 0)),
 .o 8 (.mv (.k 2)),
 .o 9 (.bin .mul (.k 7) (.k 8)),
 .o 10 (.bin .add (.c (.i .i64 2)) (.k 9)),
 .o 11 (.mv (.k 1)),
 .o 12 (.bin .add (.k 10) (.k 11)),
 .o 6 (.mv (.k 12))] false [6] [])
 .ret))⟩

def F_wire_Plan_merge : F := ⟨3,[.inl 6],
 (.seq (.reg [.zz 1,.zz 2] [.o 6 (.mv (.c (.l .o 1 [])))] false [0,1,2] [])
 (.seq (.seq (.reg [] [.o 11 (.mv (.t 1)),
 .o 12 (.len false (.k 11)),
 .o 13 (.bin .eql (.k 12) (.c (.i .i64 1)))] false [0,1,2,13] [])
 (.cond 13 (.seq (.reg [] [.o 14 (.mv (.t 0)),
 .u 15 (.mv (.t 0)) [0] 0,
 .u 16 (.nc (.k 15)) [0] 0,
 .u 17 (.fa 1 (.k 16)) [0] 0,
 .u 18 (.ld false 1 .tk (.k 17)) [0] 0,
 .u 19 (.mv (.t 1)) [0,1,2,3,4] 0,
 .u 20 (.ia 1 none (.k 19) (.c (.i .i64 0))) [0,1,2,3,4] 0,
 .u 21 (.ld false 1 .cp (.k 20)) [0,1,2,3,4] 0,
 .u 22 (.mv (.t 2)) [0,1,2,3,4,5,6,7] 0,
 .u 23 (.ia 1 none (.k 22) (.c (.i .i64 0))) [0,1,2,3,4,5,6,7] 0,
 .u 24 (.ld false 1 .cp (.k 23)) [0,1,2,3,4,5,6,7] 0,
 .u 25 (.bd ([.i .i64 0,.i .i64 0]) [(0,1,.k 21),(1,1,.k 24)]) [0,1,2,3,4] 0,
 .u 26 (.bs 2 1 (.a ([.i .i64 0,.i .i64 0])) [(0,.k 25)]) [0,1,2,3,4] 0,
 .u 27 (.app 2 16 (.k 18) (.k 26)) [0] 1,
 .o 28 (.nc (.k 14)),
 .o 29 (.fa 1 (.k 28)),
 .s (.st 1 (.k 29) (.k 27))] true [1,2] [])
 (.seq (.reg [] [.o 30 (.mv (.k 1)),
 .o 31 (.ia 1 none (.k 30) (.c (.i .i64 0))),
 .o 32 (.ld false 1 .cp (.k 31)),
 .u 33 (.mv (.k 2)) [0,1,2] 0,
 .u 34 (.ia 1 none (.k 33) (.c (.i .i64 0))) [0,1,2] 0,
 .u 35 (.ld false 1 .cp (.k 34)) [0,1,2] 0,
 .z 36 (.bs 1 2 (.i .i64 0) [(0,.k 32),(1,.k 35)]) 1,
 .o 6 (.mv (.k 36))] true [6] [])
 .ret))
 .skip))
 (.seq (.reg [] [.o 37 (.mv (.t 0)),
 .z 38 (.mv (.t 1)) 2,
 .z 39 (.call n_wire_every [.k 38,.c (.i .i64 0)]) 2,
 .z 40 (.mv (.t 2)) 2,
 .z 41 (.call n_wire_every [.k 40,.c (.i .i64 1)]) 2,
 .o 42 (.call n_wire_Plan_merge [.k 37,.k 39,.k 41]),
 .o 7 (.mv (.k 42))] false [0,1,2,7] [])
 (.seq (.reg [] [.o 43 (.mv (.t 0)),
 .z 44 (.mv (.k 1)) 2,
 .z 45 (.call n_wire_every [.k 44,.c (.i .i64 1)]) 2,
 .z 46 (.mv (.k 2)) 2,
 .z 47 (.call n_wire_every [.k 46,.c (.i .i64 0)]) 2,
 .o 48 (.call n_wire_Plan_merge [.k 43,.k 45,.k 47]),
 .o 8 (.mv (.k 48))] false [0,7,8] [])
 (.seq (.reg [] [.o 9 (.mv (.c (.l .o 1 [])))] false [0,7,8,9] [])
 (.seq (.seq (.reg [] [.o 49 (.mv (.t 7)),
 .o 50 (.len false (.k 49)),
 .o 51 (.mv (.c (.i .i64 0)))] false [0,7,8,9,50,51] [])
 (.blk 0 (.loop (.seq (.reg [] [.o 52 (.bin .lss (.t 51) (.t 50))] false [0,7,8,9,50,51,52] [])
 (.seq (.cond 52 .skip
 (.exit 0))
 (.seq (.blk 1 (.seq (.reg [] [.o 53 (.mv (.t 51)),
 .o 10 (.mv (.k 53))] false [0,7,8,9,10,50,51] [])
 (.seq (.reg [] [.o 54 (.mv (.t 0)),
 .u 55 (.mv (.t 0)) [0] 0,
 .u 56 (.nc (.k 55)) [0] 0,
 .u 57 (.fa 1 (.k 56)) [0] 0,
 .u 58 (.ld false 1 .tk (.k 57)) [0] 0,
 .u 59 (.mv (.t 7)) [0,1,2,3,4] 0,
 .u 60 (.mv (.t 10)) [0,1,2,3,4,5] 0,
 .u 61 (.ia 1 none (.k 59) (.k 60)) [0,1,2,3,4] 0,
 .u 62 (.ld false 1 .cp (.k 61)) [0,1,2,3,4] 0,
 .u 63 (.mv (.t 8)) [0,1,2,3,4,5,6,7,8] 0,
 .u 64 (.mv (.t 10)) [0,1,2,3,4,5,6,7,8,9] 0,
 .u 65 (.ia 1 none (.k 63) (.k 64)) [0,1,2,3,4,5,6,7,8] 0,
 .u 66 (.ld false 1 .cp (.k 65)) [0,1,2,3,4,5,6,7,8] 0,
 .u 67 (.bd ([.i .i64 0,.i .i64 0]) [(0,1,.k 62),(1,1,.k 66)]) [0,1,2,3,4] 0,
 .u 68 (.bs 2 1 (.a ([.i .i64 0,.i .i64 0])) [(0,.k 67)]) [0,1,2,3,4] 0,
 .u 69 (.app 2 16 (.k 58) (.k 68)) [0] 1,
 .o 70 (.nc (.k 54)),
 .o 71 (.fa 1 (.k 70)),
 .s (.st 1 (.k 71) (.k 69))] true [0,7,8,9,10,50,51] [])
 (.reg [] [.o 72 (.mv (.k 9)),
 .u 73 (.mv (.t 7)) [0] 0,
 .u 74 (.mv (.t 10)) [0,1] 0,
 .u 75 (.ia 1 none (.k 73) (.k 74)) [0] 0,
 .u 76 (.ld false 1 .cp (.k 75)) [0] 0,
 .u 77 (.mv (.t 8)) [0,1,2,3,4] 0,
 .u 78 (.mv (.t 10)) [0,1,2,3,4,5] 0,
 .u 79 (.ia 1 none (.k 77) (.k 78)) [0,1,2,3,4] 0,
 .u 80 (.ld false 1 .cp (.k 79)) [0,1,2,3,4] 0,
 .u 81 (.bs 1 2 (.i .i64 0) [(0,.k 76),(1,.k 80)]) [0] 0,
 .z 82 (.app 1 8 (.k 72) (.k 81)) 1,
 .o 9 (.mv (.k 82))] true [0,7,8,9,50,51] []))))
 (.reg [] [.o 83 (.bin .add (.k 51) (.c (.i .i64 1))),
 .o 51 (.mv (.k 83))] false [0,7,8,9,50,51] [])))))))
 (.seq (.reg [] [.o 84 (.mv (.k 9)),
 .o 6 (.mv (.k 84))] false [6] [])
 .ret)))))))⟩

def F_slices_xorshift_Next : F := ⟨1,[.inl 2],
 (.seq (.reg [] [.o 2 (.mv (.c (.i .u64 0)))] false [0] [])
 (.seq (.reg [] [.o 3 (.mv (.t 0)),
 .o 4 (.nc (.t 3)),
 .o 5 (.ld false 1 .cp (.k 4)),
 .u 6 (.mv (.t 0)) [0,1,2] 0,
 .u 7 (.nc (.k 6)) [0,1,2] 0,
 .u 8 (.ld false 1 .cp (.k 7)) [0,1,2] 0,
 .u 9 (.bin .shl (.k 8) (.c (.i .u64 13))) [0,1,2] 0,
 .o 10 (.bin .xor (.k 5) (.k 9)),
 .o 11 (.nc (.t 3)),
 .s (.st 1 (.k 11) (.k 10))] true [0] [])
 (.seq (.reg [] [.o 12 (.mv (.t 0)),
 .o 13 (.nc (.t 12)),
 .o 14 (.ld false 1 .cp (.k 13)),
 .u 15 (.mv (.t 0)) [0,1,2] 0,
 .u 16 (.nc (.k 15)) [0,1,2] 0,
 .u 17 (.ld false 1 .cp (.k 16)) [0,1,2] 0,
 .u 18 (.bin .shr (.k 17) (.c (.i .u64 7))) [0,1,2] 0,
 .o 19 (.bin .xor (.k 14) (.k 18)),
 .o 20 (.nc (.t 12)),
 .s (.st 1 (.k 20) (.k 19))] true [0] [])
 (.seq (.reg [] [.o 21 (.mv (.t 0)),
 .o 22 (.nc (.t 21)),
 .o 23 (.ld false 1 .cp (.k 22)),
 .u 24 (.mv (.t 0)) [0,1,2] 0,
 .u 25 (.nc (.k 24)) [0,1,2] 0,
 .u 26 (.ld false 1 .cp (.k 25)) [0,1,2] 0,
 .u 27 (.bin .shl (.k 26) (.c (.i .u64 17))) [0,1,2] 0,
 .o 28 (.bin .xor (.k 23) (.k 27)),
 .o 29 (.nc (.t 21)),
 .s (.st 1 (.k 29) (.k 28))] true [0] [])
 (.seq (.reg [] [.o 30 (.mv (.k 0)),
 .o 31 (.nc (.k 30)),
 .o 32 (.ld false 1 .cp (.k 31)),
 .o 2 (.mv (.k 32))] false [2] [])
 .ret)))))⟩

def F_wire_every : F := ⟨2,[.inl 4],
 (.seq (.reg [.zz 0] [.o 4 (.mv (.c (.l .o 1 [])))] false [0,1] [])
 (.seq (.reg [] [.o 5 (.mv (.c (.l .o 1 [])))] false [0,1,5] [])
 (.seq (.seq (.reg [] [.o 7 (.mv (.k 1)),
 .o 6 (.mv (.k 7))] false [0,5,6] [])
 (.blk 0 (.loop (.seq (.seq (.reg [] [.o 8 (.mv (.t 6)),
 .o 9 (.mv (.t 0)),
 .o 10 (.len false (.k 9)),
 .o 11 (.bin .lss (.k 8) (.k 10))] false [0,5,6,11] [])
 (.cond 11 .skip
 (.exit 0)))
 (.seq (.blk 1 (.reg [] [.o 14 (.mv (.k 5)),
 .o 15 (.mv (.t 0)),
 .o 16 (.mv (.t 6)),
 .o 17 (.ia 1 none (.k 15) (.k 16)),
 .o 18 (.ld false 1 .cp (.k 17)),
 .o 19 (.bs 1 1 (.i .i64 0) [(0,.k 18)]),
 .z 20 (.app 1 8 (.k 14) (.k 19)) 1,
 .o 5 (.mv (.k 20))] false [0,5,6] []))
 (.reg [] [.o 12 (.mv (.k 6)),
 .o 13 (.bin .add (.k 12) (.c (.i .i64 2))),
 .o 6 (.mv (.k 13))] false [0,5,6] []))))))
 (.seq (.reg [] [.o 21 (.mv (.k 5)),
 .o 4 (.mv (.k 21))] false [4] [])
 .ret))))⟩

def F_net_Net_Step : F := ⟨3,[.inr (6,true,4),.inl 7],
 (.seq (.reg [.zz 0] [.o 3 (.bx (.k 0)),
 .o 6 (.al ([.b false,.f .f64 0,.i .i64 0,.i .i64 0])),
 .o 7 (.mv (.c (.b false)))] false [1,2,3,6] [3,6])
 (.seq (.seq (.reg [] [.o 12 (.mv (.t 2)),
 .o 13 (.nc (.k 12)),
 .o 14 (.fa 5 (.k 13)),
 .o 15 (.ld false 1 .cp (.k 14)),
 .o 16 (.bin .eql (.k 15) (.c (.i .i64 0)))] false [1,2,3,6,16] [3,6])
 (.cond 16 (.reg [] [.o 17 (.mv (.t 2)),
 .u 18 (.mv (.t 2)) [0] 0,
 .u 19 (.mv (.t 2)) [0,1] 0,
 .u 20 (.nc (.k 19)) [0,1] 0,
 .u 21 (.fa 0 (.k 20)) [0,1] 0,
 .u 22 (.fa 3 (.k 21)) [0,1] 0,
 .u 23 (.ia 1 (some 2) (.k 22) (.c (.i .i64 0))) [0,1] 0,
 .u 24 (.ld false 1 .cp (.k 23)) [0,1] 0,
 .u 25 (.fa 0 (.t 3)) [0,1,2,3,4,5,6,7] 0,
 .u 26 (.fa 0 (.k 25)) [0,1,2,3,4,5,6,7] 0,
 .u 27 (.ld false 1 .cp (.k 26)) [0,1,2,3,4,5,6,7] 0,
 .u 28 (.call n_op_Into [.k 24,.k 27]) [0,1] 0,
 .u 29 (.nc (.k 17)) [1] 0,
 .u 30 (.fa 5 (.k 29)) [1] 0,
 ⟨none,none,.st 1 (.k 30) (.c (.i .i64 1)),[1],0⟩,
 .o 31 (.nc (.k 18)),
 .o 32 (.fa 6 (.k 31)),
 .s (.st 1 (.k 32) (.k 28))] true [1,2,3,6] [3,6])
 .skip))
 (.seq (.seq (.reg [] [.z 34 (.ld true 3 .cp (.t 3)) 2,
 .u 35 (.mv (.t 2)) [0] 0,
 .u 36 (.nc (.k 35)) [0] 0,
 .u 37 (.fa 7 (.k 36)) [0] 0,
 .u 38 (.ld false 1 .cp (.k 37)) [0] 0,
 .u 39 (.mv (.t 2)) [0,1,2,3,4] 0,
 .u 40 (.nc (.k 39)) [0,1,2,3,4] 0,
 .u 41 (.fa 6 (.k 40)) [0,1,2,3,4] 0,
 .u 42 (.ld false 1 .cp (.k 41)) [0,1,2,3,4] 0,
 .o 43 (.call n_net_Net_gate [.k 34,.k 38,.k 42]),
 .o 33 (.mv (.k 43)),
 .o 44 (.ex false 0 33),
 .u 45 (.ex false 1 33) [11] 0,
 .u 8 (.mv (.k 44)) [12] 0,
 .o 9 (.mv (.k 45))] true [1,2,3,6,8,9] [3,6])
 (.seq (.reg [] [.o 46 (.mv (.k 9))] false [1,2,3,6,8,46] [3,6])
 (.cond 46 (.seq (.reg [] [.o 47 (.fa 0 (.k 3)),
 .o 48 (.fa 1 (.k 47)),
 .o 49 (.ld false 1 .tk (.k 48)),
 .o 50 (.mv (.t 8)),
 .o 51 (.ia 2 none (.k 49) (.k 50)),
 .o 52 (.ld true 2 .cp (.k 51)),
 .o 10 (.al ([.i .i64 0,.i .i64 0])),
 .s (.st 2 (.t 10) (.k 52))] false [1,2,6,8,10] [6,10])
 (.seq (.reg [] [.o 53 (.mv (.t 2)),
 .u 54 (.mv (.t 2)) [0] 0,
 .u 55 (.mv (.t 8)) [0,1] 0,
 .u 56 (.bin .add (.k 55) (.c (.i .i64 1))) [0,1] 0,
 .u 57 (.fa 0 (.t 10)) [0,1,2,3] 0,
 .u 58 (.ld false 1 .cp (.k 57)) [0,1,2,3] 0,
 .u 59 (.nc (.k 53)) [1,4,5] 0,
 .u 60 (.fa 7 (.k 59)) [1,4,5] 0,
 ⟨none,none,.st 1 (.k 60) (.k 56),[1,4,5],0⟩,
 .o 61 (.nc (.k 54)),
 .o 62 (.fa 6 (.k 61)),
 .s (.st 1 (.k 62) (.k 58))] true [1,2,6,8,10] [6,10])
 (.seq (.seq (.reg [] [.o 63 (.mv (.k 1)),
 .o 64 (.mv (.k 8)),
 .o 65 (.call n_net_bump [.k 63,.k 64]),
 .o 66 (.bin .rem (.k 65) (.c (.i .i64 2))),
 .o 67 (.bin .eql (.k 66) (.c (.i .i64 1)))] false [2,6,10,67] [6,10])
 (.cond 67 (.reg [] [.o 68 (.mv (.k 2)),
 .o 69 (.fa 1 (.k 10)),
 .o 70 (.ld false 1 .cp (.k 69)),
 .o 71 (.nc (.k 68)),
 .o 72 (.fa 6 (.k 71)),
 .s (.st 1 (.k 72) (.k 70))] false [6] [6])
 .skip))
 (.seq (.reg [] [.o 73 (.bd ([.b false,.f .f64 0,.i .i64 0,.i .i64 0]) []),
 .s (.st 4 (.t 6) (.k 73)),
 .o 7 (.mv (.c (.b false)))] false [6,7] [6])
 .ret))))
 .skip)))
 (.seq (.reg [] [.z 74 (.ld true 3 .cp (.t 3)) 2,
 .u 75 (.mv (.k 2)) [0] 0,
 .u 76 (.nc (.k 75)) [0] 0,
 .u 77 (.fa 6 (.k 76)) [0] 0,
 .u 78 (.ld false 1 .cp (.k 77)) [0] 0,
 .o 79 (.call n_net_Net_place [.k 74,.k 78]),
 .o 11 (.mv (.k 79))] true [1,3,6,11] [3,6])
 (.seq (.reg [] [.o 80 (.mv (.t 11)),
 .u 81 (.fa 0 (.t 3)) [0] 0,
 .u 82 (.fa 0 (.k 81)) [0] 0,
 .u 83 (.ld false 1 .cp (.k 82)) [0] 0,
 .u 84 (.mv (.k 1)) [0,1,2,3] 0,
 .u 85 (.ld true 3 .cp (.t 3)) [0,1,2,3,4] 2,
 .u 86 (.mv (.t 11)) [0,1,2,3,4,5] 0,
 .u 87 (.call n_net_Net_Out [.k 85,.k 86]) [0,1,2,3,4] 0,
 .u 88 (.call n_net_bump [.k 84,.k 87]) [0,1,2,3] 0,
 .u 89 (.bin .mul (.k 83) (.k 88)) [0] 0,
 .o 90 (.bin .add (.k 80) (.k 89)),
 .o 91 (.bd ([.b false,.f .f64 0,.i .i64 0,.i .i64 0]) [(0,1,.c (.b true)),(3,1,.k 90)]),
 .s (.st 4 (.t 6) (.k 91)),
 .o 7 (.mv (.c (.b true)))] true [6,7] [6])
 .ret)))))⟩

def F_net_Net_gate : F := ⟨3,[.inl 6,.inl 7],
 (.seq (.reg [.zz 0] [.o 3 (.bx (.k 0)),
 .o 6 (.mv (.c (.i .i64 0))),
 .o 7 (.mv (.c (.b false)))] false [1,2,3] [3])
 (.seq (.seq (.reg [] [.o 10 (.mv (.k 1)),
 .o 8 (.mv (.k 10))] false [2,3,8] [3])
 (.blk 0 (.loop (.seq (.seq (.reg [] [.o 11 (.mv (.t 8)),
 .o 12 (.fa 0 (.t 3)),
 .o 13 (.fa 1 (.k 12)),
 .o 14 (.ld false 1 .cp (.k 13)),
 .o 15 (.len false (.k 14)),
 .o 16 (.bin .lss (.k 11) (.k 15))] false [2,3,8,16] [3])
 (.cond 16 .skip
 (.exit 0)))
 (.seq (.blk 1 (.seq (.reg [] [.o 19 (.fa 0 (.t 3)),
 .o 20 (.fa 1 (.k 19)),
 .o 21 (.ld false 1 .cp (.k 20)),
 .o 22 (.mv (.t 8)),
 .o 23 (.ia 2 none (.k 21) (.k 22)),
 .o 24 (.ld true 2 .cp (.k 23)),
 .o 9 (.al ([.i .i64 0,.i .i64 0])),
 .s (.st 2 (.t 9) (.k 24))] false [2,3,8,9] [3,9])
 (.seq (.reg [] [.o 25 (.fa 0 (.t 9)),
 .o 26 (.ld false 1 .cp (.k 25)),
 .o 27 (.mv (.t 2)),
 .o 28 (.bin .eql (.k 26) (.k 27)),
 .o 29 (.mv (.k 28)),
 .c 29 false 30 (.fa 1 (.k 9)),
 .c 29 false 31 (.ld false 1 .cp (.k 30)),
 .c 29 false 32 (.mv (.t 2)),
 .c 29 false 33 (.bin .eql (.k 31) (.k 32)),
 .o 34 (.pick (.k 29) (.c (.b true)) (.k 33))] false [2,3,8,34] [3])
 (.cond 34 (.seq (.reg [] [.o 35 (.mv (.k 8)),
 .o 6 (.mv (.k 35)),
 .o 7 (.mv (.c (.b true)))] false [6,7] [])
 .ret)
 .skip))))
 (.reg [] [.o 17 (.mv (.k 8)),
 .o 18 (.bin .add (.k 17) (.c (.i .i64 1))),
 .o 8 (.mv (.k 18))] false [2,3,8] [3]))))))
 (.seq (.reg [] [.o 6 (.mv (.c (.i .i64 0))),
 .o 7 (.mv (.c (.b false)))] false [6,7] [])
 .ret)))⟩

def F_net_bump : F := ⟨2,[.inl 4],
 (.seq (.reg [] [.o 4 (.mv (.c (.i .i64 0)))] false [0,1] [])
 (.seq (.reg [] [.o 6 (.mv (.t 0)),
 .o 7 (.mv (.t 1)),
 .o 8 (.call n_cell_Memory_Read [.k 6,.k 7]),
 .o 5 (.al ([.i .u64 0,.i .i64 0,.l .o 2 []])),
 .s (.st 3 (.t 5) (.k 8))] false [0,1,5] [5])
 (.seq (.reg [] [.o 9 (.mv (.k 0)),
 .o 10 (.mv (.k 1)),
 .o 11 (.fa 0 (.t 5)),
 .o 12 (.ld false 1 .cp (.k 11)),
 .o 13 (.fa 1 (.t 5)),
 .o 14 (.fa 0 (.k 13)),
 .o 15 (.ld false 1 .cp (.k 14)),
 .o 16 (.bin .add (.k 15) (.c (.i .i64 1))),
 .z 17 (.bd ([.i .i64 0,.l .o 2 []]) [(0,1,.k 16)]) 2,
 .o 18 (.call n_cell_Memory_Write [.k 9,.k 10,.k 12,.k 17])] false [5] [5])
 (.seq (.reg [] [.o 19 (.fa 1 (.k 5)),
 .o 20 (.fa 0 (.k 19)),
 .o 21 (.ld false 1 .cp (.k 20)),
 .o 4 (.mv (.k 21))] false [4] [])
 .ret))))⟩

def F_net_Net_place : F := ⟨2,[.inl 4],
 (.seq (.reg [.zz 0] [.o 2 (.bx (.k 0)),
 .o 4 (.mv (.c (.i .i64 0)))] false [1,2] [2])
 (.seq (.seq (.reg [] [.o 7 (.fa 0 (.k 2)),
 .o 8 (.fa 2 (.k 7)),
 .o 9 (.ld false 1 .tk (.k 8)),
 .o 10 (.len false (.t 9)),
 .o 11 (.mv (.c (.i .i64 0)))] false [1,9,10,11] [])
 (.blk 0 (.loop (.seq (.reg [] [.o 12 (.bin .lss (.t 11) (.t 10))] false [1,9,10,11,12] [])
 (.seq (.cond 12 .skip
 (.exit 0))
 (.seq (.blk 1 (.seq (.reg [] [.o 13 (.mv (.t 11)),
 .o 14 (.ia 1 none (.t 9) (.t 11)),
 .o 15 (.ld false 1 .cp (.k 14)),
 .o 5 (.mv (.k 13)),
 .o 6 (.mv (.k 15))] false [1,5,6,9,10,11] [])
 (.seq (.reg [] [.o 16 (.mv (.k 6)),
 .o 17 (.mv (.t 1)),
 .o 18 (.bin .eql (.k 16) (.k 17))] false [1,5,9,10,11,18] [])
 (.cond 18 (.seq (.reg [] [.o 19 (.mv (.k 5)),
 .o 4 (.mv (.k 19))] false [4] [])
 .ret)
 .skip))))
 (.reg [] [.o 20 (.bin .add (.k 11) (.c (.i .i64 1))),
 .o 11 (.mv (.k 20))] false [1,9,10,11] [])))))))
 (.seq (.reg [] [.o 4 (.mv (.c (.i .i64 0)))] false [4] [])
 .ret)))⟩

def F_multi_Multi_Step : F := ⟨3,[.inr (6,true,4),.inl 7],
 (.seq (.reg [] [.o 3 (.bx (.k 0)),
 .o 6 (.al ([.b false,.f .f64 0,.i .i64 0,.i .i64 0])),
 .o 7 (.mv (.c (.b false)))] false [1,2,3,6] [3,6])
 (.seq (.seq (.reg [] [.o 8 (.mv (.t 2)),
 .o 9 (.nc (.k 8)),
 .o 10 (.fa 0 (.k 9)),
 .o 11 (.fa 0 (.k 10)),
 .o 12 (.ld false 1 .cp (.k 11)),
 .o 13 (.bin .eql (.k 12) (.c (.i .i64 1)))] false [1,2,3,6,13] [3,6])
 (.cond 13 (.seq (.reg [] [.o 14 (.ld true 1 .cp (.k 3)),
 .o 15 (.mv (.k 1)),
 .o 16 (.mv (.k 2)),
 .o 17 (.call n_multi_Multi_insert [.k 14,.k 15,.k 16]),
 .o 18 (.ex false 0 17),
 .o 19 (.ex false 1 17),
 .s (.st 4 (.t 6) (.k 18)),
 .o 7 (.mv (.k 19))] false [6,7] [6])
 .ret)
 .skip))
 (.seq (.reg [] [.o 20 (.ld true 1 .cp (.k 3)),
 .o 21 (.mv (.k 1)),
 .o 22 (.mv (.k 2)),
 .o 23 (.call n_multi_Multi_delete [.k 20,.k 21,.k 22]),
 .o 24 (.ex false 0 23),
 .o 25 (.ex false 1 23),
 .s (.st 4 (.t 6) (.k 24)),
 .o 7 (.mv (.k 25))] false [6,7] [6])
 .ret)))⟩

def F_multi_Multi_insert : F := ⟨3,[.inr (6,true,4),.inl 7],
 (.seq (.reg [] [.o 3 (.bx (.k 0)),
 .o 6 (.al ([.b false,.f .f64 0,.i .i64 0,.i .i64 0])),
 .o 7 (.mv (.c (.b false)))] false [1,2,3,6] [3,6])
 (.seq (.reg [] [.o 11 (.mv (.t 2)),
 .o 12 (.nc (.k 11)),
 .o 13 (.fa 0 (.k 12)),
 .o 14 (.fa 3 (.k 13)),
 .o 15 (.ia 1 (some 2) (.k 14) (.c (.i .i64 0))),
 .o 16 (.ld false 1 .cp (.k 15)),
 .u 17 (.fa 0 (.k 3)) [0,1,2,3,4,5] 0,
 .u 18 (.ld false 1 .cp (.k 17)) [0,1,2,3,4,5] 0,
 .o 19 (.call n_op_Into [.k 16,.k 18]),
 .o 8 (.mv (.k 19))] true [1,2,6,8] [6])
 (.seq (.reg [] [.o 20 (.mv (.t 2)),
 .o 21 (.nc (.k 20)),
 .o 22 (.fa 11 (.k 21)),
 .o 23 (.ia 3 (some 2) (.k 22) (.c (.i .i64 0))),
 .o 9 (.mv (.k 23))] false [1,2,6,8,9] [6])
 (.seq (.seq (.reg [] [.o 24 (.mv (.t 2)),
 .o 25 (.nc (.k 24)),
 .o 26 (.fa 5 (.k 25)),
 .o 27 (.ld false 1 .cp (.k 26)),
 .o 28 (.bin .eql (.k 27) (.c (.i .i64 0)))] false [1,2,6,8,9,28] [6])
 (.cond 28 (.seq (.reg [] [.o 29 (.mv (.t 9)),
 .o 30 (.mv (.k 1)),
 .o 31 (.mv (.k 8)),
 .o 32 (.call n_cell_Memory_Read [.k 30,.k 31]),
 .o 33 (.nc (.k 29)),
 .s (.st 3 (.k 33) (.k 32))] false [2,6,9] [6])
 (.seq (.reg [] [.o 34 (.mv (.k 2)),
 .o 35 (.nc (.k 34)),
 .o 36 (.fa 5 (.k 35)),
 .s (.st 1 (.k 36) (.c (.i .i64 1)))] false [6,9] [6])
 (.seq (.reg [] [.o 37 (.bd ([.b false,.f .f64 0,.i .i64 0,.i .i64 0]) []),
 .u 38 (.mv (.k 9)) [0] 0,
 .u 39 (.nc (.k 38)) [0] 0,
 .u 40 (.fa 1 (.k 39)) [0] 0,
 .u 41 (.fa 1 (.k 40)) [0] 0,
 .u 42 (.ld false 1 .cp (.k 41)) [0] 0,
 .u 43 (.len false (.k 42)) [0] 0,
 .u 44 (.bin .geq (.k 43) (.c (.i .i64 62))) [0] 0,
 ⟨none,none,.st 4 (.t 6) (.k 37),[1,2,3,4,5,6,7],0⟩,
 .o 7 (.mv (.k 44))] true [6,7] [6])
 .ret)))
 .skip))
 (.seq (.reg [] [.o 45 (.mv (.t 9)),
 .o 46 (.nc (.k 45)),
 .o 47 (.fa 1 (.k 46)),
 .o 48 (.fa 1 (.k 47)),
 .z 49 (.ld false 1 .cp (.k 48)) 2,
 .o 50 (.call n_pile_New [.k 49]),
 .o 10 (.mv (.k 50))] false [1,2,6,8,9,10] [6])
 (.seq (.reg [] [.o 51 (.mv (.t 10)),
 .o 52 (.mv (.t 2)),
 .o 53 (.nc (.k 52)),
 .o 54 (.fa 0 (.k 53)),
 .o 55 (.fa 1 (.k 54)),
 .o 56 (.ld true 2 .cp (.k 55)),
 .o 57 (.call n_pile_Pile_Put [.k 51,.k 56])] false [1,2,6,8,9,10] [6])
 (.seq (.seq (.reg [] [.o 58 (.mv (.k 1)),
 .u 59 (.mv (.k 8)) [0] 0,
 .u 60 (.mv (.k 9)) [0,1] 0,
 .u 61 (.nc (.k 60)) [0,1] 0,
 .u 62 (.fa 0 (.k 61)) [0,1] 0,
 .u 63 (.ld false 1 .cp (.k 62)) [0,1] 0,
 .u 64 (.mv (.k 10)) [0,1,2,3,4,5] 0,
 .u 65 (.call n_pile_Pile_All [.k 64]) [0,1,2,3,4,5] 0,
 .u 66 (.bd ([.i .i64 0,.l .o 2 []]) [(1,1,.k 65)]) [0,1,2,3,4,5] 2,
 .o 67 (.call n_cell_Memory_Write [.k 58,.k 59,.k 63,.k 66])] true [2,6,67] [6])
 (.cond 67 (.seq (.reg [] [.o 68 (.mv (.k 2)),
 .o 69 (.nc (.k 68)),
 .o 70 (.fa 0 (.k 69)),
 .o 71 (.fa 1 (.k 70)),
 .o 72 (.ld true 2 .cp (.k 71)),
 .o 73 (.call n_pile_Item_Canon [.k 72]),
 .o 74 (.bd ([.b false,.f .f64 0,.i .i64 0,.i .i64 0]) [(0,1,.c (.b true)),(1,2,.k 73)]),
 .s (.st 4 (.t 6) (.k 74)),
 .o 7 (.mv (.c (.b true)))] false [6,7] [6])
 .ret)
 .skip))
 (.seq (.reg [] [.o 75 (.mv (.k 2)),
 .o 76 (.nc (.k 75)),
 .o 77 (.fa 5 (.k 76)),
 .s (.st 1 (.k 77) (.c (.i .i64 0)))] false [6] [6])
 (.seq (.reg [] [.o 78 (.bd ([.b false,.f .f64 0,.i .i64 0,.i .i64 0]) []),
 .s (.st 4 (.t 6) (.k 78)),
 .o 7 (.mv (.c (.b false)))] false [6,7] [6])
 .ret)))))))))⟩

def F_multi_Multi_delete : F := ⟨3,[.inr (6,true,4),.inl 7],
 (.seq (.reg [] [.o 3 (.bx (.k 0)),
 .o 6 (.al ([.b false,.f .f64 0,.i .i64 0,.i .i64 0])),
 .o 7 (.mv (.c (.b false)))] false [1,2,3,6] [3,6])
 (.seq (.seq (.reg [] [.o 14 (.mv (.t 2)),
 .o 15 (.nc (.k 14)),
 .o 16 (.fa 5 (.k 15)),
 .o 17 (.ld false 1 .cp (.k 16)),
 .o 18 (.bin .lss (.k 17) (.c (.i .i64 2)))] false [1,2,3,6,18] [3,6])
 (.cond 18 (.seq (.reg [] [.o 19 (.mv (.t 2)),
 .u 20 (.mv (.t 2)) [0] 0,
 .u 21 (.nc (.k 20)) [0] 0,
 .u 22 (.fa 5 (.k 21)) [0] 0,
 .u 23 (.ld false 1 .cp (.k 22)) [0] 0,
 .u 24 (.mv (.k 1)) [0,1,2,3,4] 0,
 .u 25 (.mv (.t 2)) [0,1,2,3,4,5] 0,
 .u 26 (.mv (.t 2)) [0,1,2,3,4,5,6] 0,
 .u 27 (.nc (.k 26)) [0,1,2,3,4,5,6] 0,
 .u 28 (.fa 5 (.k 27)) [0,1,2,3,4,5,6] 0,
 .u 29 (.ld false 1 .cp (.k 28)) [0,1,2,3,4,5,6] 0,
 .u 30 (.nc (.k 25)) [0,1,2,3,4,5,7,8,9,10] 0,
 .u 31 (.fa 0 (.k 30)) [0,1,2,3,4,5,7,8,9,10] 0,
 .u 32 (.fa 3 (.k 31)) [0,1,2,3,4,5,7,8,9,10] 0,
 .u 33 (.ia 1 (some 2) (.k 32) (.k 29)) [0,1,2,3,4,5] 0,
 .u 34 (.ld false 1 .cp (.k 33)) [0,1,2,3,4,5] 0,
 .u 35 (.fa 0 (.k 3)) [0,1,2,3,4,5,6,7,8,9,10,11,12,13,14,15] 0,
 .u 36 (.ld false 1 .cp (.k 35)) [0,1,2,3,4,5,6,7,8,9,10,11,12,13,14,15] 0,
 .u 37 (.call n_op_Into [.k 34,.k 36]) [0,1,2,3,4,5] 0,
 .u 38 (.call n_cell_Memory_Read [.k 24,.k 37]) [0,1,2,3,4] 0,
 .u 39 (.nc (.k 19)) [1,2,3,4,5,6,7,8,9,10,11,12,13,14,15,16,17,18,19] 0,
 .u 40 (.fa 11 (.k 39)) [1,2,3,4,5,6,7,8,9,10,11,12,13,14,15,16,17,18,19] 0,
 .o 41 (.ia 3 (some 2) (.k 40) (.k 23)),
 .s (.st 3 (.k 41) (.k 38))] true [2,6] [6])
 (.seq (.reg [] [.o 42 (.mv (.t 2)),
 .o 43 (.nc (.t 42)),
 .o 44 (.fa 5 (.k 43)),
 .o 45 (.ld false 1 .cp (.k 44)),
 .o 46 (.bin .add (.k 45) (.c (.i .i64 1))),
 .o 47 (.nc (.k 42)),
 .o 48 (.fa 5 (.k 47)),
 .s (.st 1 (.k 48) (.k 46))] false [2,6] [6])
 (.seq (.seq (.reg [] [.o 49 (.mv (.t 2)),
 .o 50 (.nc (.k 49)),
 .o 51 (.fa 5 (.k 50)),
 .o 52 (.ld false 1 .cp (.k 51)),
 .o 53 (.bin .lss (.k 52) (.c (.i .i64 2)))] false [2,6,53] [6])
 (.cond 53 (.seq (.reg [] [.o 54 (.bd ([.b false,.f .f64 0,.i .i64 0,.i .i64 0]) []),
 .s (.st 4 (.t 6) (.k 54)),
 .o 7 (.mv (.c (.b false)))] false [6,7] [6])
 .ret)
 .skip))
 (.seq (.reg [] [.o 56 (.mv (.t 2)),
 .o 57 (.call n_multi_better [.k 56]),
 .o 55 (.mv (.k 57)),
 .o 58 (.ex false 0 55),
 .o 59 (.ex false 1 55),
 .o 8 (.mv (.k 58)),
 .o 9 (.mv (.k 59))] false [2,6,8,9] [6])
 (.seq (.reg [] [.o 60 (.mv (.k 2)),
 .o 61 (.mv (.k 8)),
 .o 62 (.nc (.k 60)),
 .o 63 (.fa 6 (.k 62)),
 .s (.st 1 (.k 63) (.k 61))] false [6,9] [6])
 (.seq (.reg [] [.o 64 (.bd ([.b false,.f .f64 0,.i .i64 0,.i .i64 0]) []),
 .o 65 (.mv (.k 9)),
 .o 66 (.un .not (.k 65)),
 .s (.st 4 (.t 6) (.k 64)),
 .o 7 (.mv (.k 66))] false [6,7] [6])
 .ret))))))
 .skip))
 (.seq (.reg [] [.o 67 (.mv (.t 2)),
 .u 68 (.mv (.t 2)) [0] 0,
 .u 69 (.nc (.k 68)) [0] 0,
 .u 70 (.fa 6 (.k 69)) [0] 0,
 .u 71 (.ld false 1 .cp (.k 70)) [0] 0,
 .u 72 (.nc (.k 67)) [1,2,3,4] 0,
 .u 73 (.fa 11 (.k 72)) [1,2,3,4] 0,
 .o 74 (.ia 3 (some 2) (.k 73) (.k 71)),
 .o 75 (.ld true 3 .cp (.k 74)),
 .u 10 (.al ([.i .u64 0,.i .i64 0,.l .o 2 []])) [0,1,2,3,4,5,6,7,8] 0,
 .s (.st 3 (.t 10) (.k 75))] true [1,2,3,6,10] [3,6,10])
 (.seq (.reg [] [.o 76 (.fa 1 (.t 10)),
 .o 77 (.fa 1 (.k 76)),
 .z 78 (.ld false 1 .cp (.k 77)) 2,
 .o 79 (.call n_pile_New [.k 78]),
 .o 11 (.mv (.k 79))] false [1,2,3,6,10,11] [3,6,10])
 (.seq (.reg [] [.o 81 (.mv (.t 11)),
 .o 82 (.call n_pile_Pile_Take [.k 81]),
 .o 80 (.mv (.k 82)),
 .o 83 (.ex false 0 80),
 .o 84 (.ex false 1 80),
 .o 12 (.al ([.f .f64 0,.i .i64 0])),
 .s (.st 2 (.t 12) (.k 83)),
 .o 13 (.mv (.k 84))] false [1,2,3,6,10,11,12] [3,6,10,12])
 (.seq (.seq (.reg [] [.o 85 (.mv (.k 1)),
 .u 86 (.mv (.t 2)) [0] 0,
 .u 87 (.mv (.t 2)) [0,1] 0,
 .u 88 (.nc (.k 87)) [0,1] 0,
 .u 89 (.fa 6 (.k 88)) [0,1] 0,
 .u 90 (.ld false 1 .cp (.k 89)) [0,1] 0,
 .u 91 (.nc (.k 86)) [0,2,3,4,5] 0,
 .u 92 (.fa 0 (.k 91)) [0,2,3,4,5] 0,
 .u 93 (.fa 3 (.k 92)) [0,2,3,4,5] 0,
 .u 94 (.ia 1 (some 2) (.k 93) (.k 90)) [0] 0,
 .u 95 (.ld false 1 .cp (.k 94)) [0] 0,
 .u 96 (.fa 0 (.k 3)) [0,1,2,3,4,5,6,7,8,9,10] 0,
 .u 97 (.ld false 1 .cp (.k 96)) [0,1,2,3,4,5,6,7,8,9,10] 0,
 .u 98 (.call n_op_Into [.k 95,.k 97]) [0] 0,
 .u 99 (.fa 0 (.k 10)) [0,1,2,3,4,5,6,7,8,9,10,11,12,13] 0,
 .u 100 (.ld false 1 .cp (.k 99)) [0,1,2,3,4,5,6,7,8,9,10,11,12,13] 0,
 .u 101 (.mv (.k 11)) [0,1,2,3,4,5,6,7,8,9,10,11,12,13,14,15] 0,
 .u 102 (.call n_pile_Pile_All [.k 101]) [0,14,15] 0,
 .u 103 (.bd ([.i .i64 0,.l .o 2 []]) [(1,1,.k 102)]) [0,14,15] 2,
 .o 104 (.call n_cell_Memory_Write [.k 85,.k 98,.k 100,.k 103])] true [2,6,12,104] [6,12])
 (.cond 104 (.seq (.reg [] [.o 105 (.ld true 2 .cp (.k 12)),
 .o 106 (.bd ([.b false,.f .f64 0,.i .i64 0,.i .i64 0]) [(0,1,.c (.b true)),(1,2,.k 105)]),
 .s (.st 4 (.t 6) (.k 106)),
 .o 7 (.mv (.c (.b true)))] false [6,7] [6])
 .ret)
 .skip))
 (.seq (.reg [] [.o 107 (.mv (.k 2)),
 .o 108 (.nc (.k 107)),
 .o 109 (.fa 5 (.k 108)),
 .s (.st 1 (.k 109) (.c (.i .i64 0)))] false [6] [6])
 (.seq (.reg [] [.o 110 (.bd ([.b false,.f .f64 0,.i .i64 0,.i .i64 0]) []),
 .s (.st 4 (.t 6) (.k 110)),
 .o 7 (.mv (.c (.b false)))] false [6,7] [6])
 .ret))))))))⟩

def F_pile_Pile_Put : F := ⟨2,[],
 (.seq (.reg [] [.o 3 (.bx (.k 1))] false [0,3] [3])
 (.reg [] [.o 4 (.mv (.k 0)),
 .o 5 (.nc (.k 4)),
 .o 6 (.fa 0 (.k 5)),
 .o 7 (.mi t_pile_items_u (.k 6)),
 .u 8 (.ld true 2 .cp (.k 3)) [0,1,2,3] 0,
 .u 9 (.call n_pile_Item_Canon [.k 8]) [0,1,2,3] 0,
 .u 10 (.mi t_pile_Item (.k 9)) [0,1,2,3] 0,
 .o 11 (.call n_container_heap_Push [.k 7,.k 10])] true [] []))⟩

def F_multi_better : F := ⟨1,[.inl 2,.inl 3],
 (.seq (.reg [] [.o 2 (.mv (.c (.i .i64 0))),
 .o 3 (.mv (.c (.b false)))] false [0] [])
 (.seq (.reg [] [.o 6 (.mv (.t 0)),
 .o 7 (.nc (.k 6)),
 .o 8 (.fa 11 (.k 7)),
 .o 9 (.ia 3 (some 2) (.k 8) (.c (.i .i64 0))),
 .o 10 (.fa 1 (.k 9)),
 .o 11 (.fa 1 (.k 10)),
 .o 12 (.ld false 1 .cp (.k 11)),
 .u 13 (.mv (.t 0)) [0,1,2,3,4,5,6] 0,
 .u 14 (.nc (.k 13)) [0,1,2,3,4,5,6] 0,
 .u 15 (.fa 11 (.k 14)) [0,1,2,3,4,5,6] 0,
 .u 16 (.ia 3 (some 2) (.k 15) (.c (.i .i64 1))) [0,1,2,3,4,5,6] 0,
 .u 17 (.fa 1 (.k 16)) [0,1,2,3,4,5,6] 0,
 .u 18 (.fa 1 (.k 17)) [0,1,2,3,4,5,6] 0,
 .u 19 (.ld false 1 .cp (.k 18)) [0,1,2,3,4,5,6] 0,
 .u 4 (.mv (.k 12)) [7,8,9,10,11,12,13] 0,
 .o 5 (.mv (.k 19))] true [4,5] [])
 (.seq (.blk 0 (.seq (.reg [] [.o 21 (.mv (.t 4)),
 .o 22 (.len false (.k 21)),
 .o 23 (.bin .eql (.k 22) (.c (.i .i64 0))),
 .o 20 (.mv (.k 23))] false [4,5,20] [])
 (.cond 20 (.seq (.reg [] [.o 24 (.mv (.k 5)),
 .o 25 (.len false (.k 24)),
 .o 26 (.bin .gtr (.k 25) (.c (.i .i64 0))),
 .o 2 (.mv (.c (.i .i64 1))),
 .o 3 (.mv (.k 26))] false [2,3] [])
 .ret)
 (.seq (.reg [] [.o 28 (.mv (.t 5)),
 .o 29 (.len false (.k 28)),
 .o 30 (.bin .gtr (.k 29) (.c (.i .i64 0))),
 .o 31 (.mv (.k 30)),
 .c 31 true 32 (.mv (.t 5)),
 .c 31 true 33 (.ia 2 none (.k 32) (.c (.i .i64 0))),
 .c 31 true 34 (.ld true 2 .cp (.k 33)),
 ⟨some 35,some (31,true),.mv (.k 4),[4,5,6],0⟩,
 ⟨some 36,some (31,true),.ia 2 none (.k 35) (.c (.i .i64 0)),[4,5,6],0⟩,
 ⟨some 37,some (31,true),.ld true 2 .cp (.k 36),[4,5,6],0⟩,
 .c 31 true 38 (.call n_pile_Item_Cmp [.k 34,.k 37]),
 .c 31 true 39 (.bin .lss (.k 38) (.c (.i .i64 0))),
 .o 40 (.pick (.t 31) (.k 39) (.c (.b false))),
 .o 27 (.mv (.k 40))] true [27] [])
 (.cond 27 (.seq (.reg [] [.o 2 (.mv (.c (.i .i64 1))),
 .o 3 (.mv (.c (.b true)))] false [2,3] [])
 .ret)
 .skip)))))
 (.seq (.reg [] [.o 2 (.mv (.c (.i .i64 0))),
 .o 3 (.mv (.c (.b true)))] false [2,3] [])
 .ret))))⟩

def F_container_heap_Push : F := ⟨2,[],
 (.seq (.reg [] [.o 4 (.mv (.t 0)),
 .o 5 (.mv (.k 1)),
 .o 6 (.inv "Push" (.k 4) [.k 5])] false [0] [])
 (.reg [] [.o 7 (.mv (.t 0)),
 .o 8 (.mv (.k 0)),
 .o 9 (.inv "Len" (.k 8) []),
 .o 10 (.bin .sub (.k 9) (.c (.i .i64 1))),
 .o 11 (.call n_container_heap_up [.k 7,.k 10])] false [] []))⟩

def F_container_heap_up : F := ⟨2,[],
 (.blk 0 (.loop (.blk 1 (.seq (.reg [] [.o 5 (.mv (.t 1)),
 .o 6 (.bin .sub (.k 5) (.c (.i .i64 1))),
 .o 7 (.bin .quo (.k 6) (.c (.i .i64 2))),
 .o 4 (.mv (.k 7))] false [0,1,4] [])
 (.seq (.seq (.reg [] [.o 8 (.mv (.t 4)),
 .o 9 (.mv (.t 1)),
 .o 10 (.bin .eql (.k 8) (.k 9)),
 .o 11 (.mv (.k 10)),
 .c 11 false 12 (.mv (.t 0)),
 .c 11 false 13 (.mv (.t 1)),
 .c 11 false 14 (.mv (.t 4)),
 .c 11 false 15 (.inv "Less" (.k 12) [.k 13,.k 14]),
 .c 11 false 16 (.un .not (.k 15)),
 .o 17 (.pick (.k 11) (.c (.b true)) (.k 16))] false [0,1,4,17] [])
 (.cond 17 (.exit 0)
 .skip))
 (.seq (.reg [] [.o 18 (.mv (.t 0)),
 .o 19 (.mv (.t 4)),
 .o 20 (.mv (.k 1)),
 .o 21 (.inv "Swap" (.k 18) [.k 19,.k 20])] false [0,4] [])
 (.reg [] [.o 22 (.mv (.k 4)),
 .o 1 (.mv (.k 22))] false [0,1] [])))))))⟩

def F_kfifo_Queue_Fits : F := ⟨2,[.inl 4],
 (.seq (.reg [] [.o 2 (.bx (.k 0)),
 .o 4 (.mv (.c (.b false)))] false [1,2] [2])
 (.seq (.reg [] [.o 5 (.mv (.t 1)),
 .o 6 (.bin .geq (.k 5) (.c (.i .i64 0))),
 .o 7 (.mv (.k 6)),
 .c 7 true 8 (.mv (.t 1)),
 .c 7 true 9 (.bin .lss (.k 8) (.c (.i .i64 1000))),
 .o 10 (.pick (.k 7) (.k 9) (.c (.b false))),
 .o 11 (.mv (.k 10)),
 .c 11 true 12 (.ld true 1 .cp (.t 2)),
 .c 11 true 13 (.mv (.k 1)),
 .c 11 true 14 (.fa 0 (.k 2)),
 .c 11 true 15 (.ld false 1 .cp (.k 14)),
 .c 11 true 16 (.call n_kfifo_Queue_Slot [.k 12,.k 13,.k 15]),
 .c 11 true 17 (.bin .leq (.k 16) (.c (.i .i64 1000))),
 .o 18 (.pick (.k 11) (.k 17) (.c (.b false))),
 .o 4 (.mv (.k 18))] false [4] [])
 .ret))⟩

def F_kfifo_Queue_Step : F := ⟨3,[.inr (6,true,4),.inl 7],
 (.seq (.reg [] [.o 3 (.bx (.k 0)),
 .o 6 (.al ([.b false,.f .f64 0,.i .i64 0,.i .i64 0])),
 .o 7 (.mv (.c (.b false)))] false [1,2,3,6] [3,6])
 (.seq (.seq (.reg [] [.o 8 (.mv (.t 2)),
 .o 9 (.nc (.k 8)),
 .o 10 (.fa 0 (.k 9)),
 .o 11 (.fa 0 (.k 10)),
 .o 12 (.ld false 1 .cp (.k 11)),
 .o 13 (.bin .eql (.k 12) (.c (.i .i64 3)))] false [1,2,3,6,13] [3,6])
 (.cond 13 (.seq (.reg [] [.o 14 (.ld true 1 .cp (.k 3)),
 .o 15 (.mv (.k 1)),
 .o 16 (.mv (.k 2)),
 .o 17 (.call n_kfifo_Queue_enq [.k 14,.k 15,.k 16]),
 .o 18 (.ex false 0 17),
 .o 19 (.ex false 1 17),
 .s (.st 4 (.t 6) (.k 18)),
 .o 7 (.mv (.k 19))] false [6,7] [6])
 .ret)
 .skip))
 (.seq (.reg [] [.o 20 (.ld true 1 .cp (.k 3)),
 .o 21 (.mv (.k 1)),
 .o 22 (.mv (.k 2)),
 .o 23 (.call n_kfifo_Queue_deq [.k 20,.k 21,.k 22]),
 .o 24 (.ex false 0 23),
 .o 25 (.ex false 1 23),
 .s (.st 4 (.t 6) (.k 24)),
 .o 7 (.mv (.k 25))] false [6,7] [6])
 .ret)))⟩

def F_kfifo_Queue_enq : F := ⟨3,[.inr (6,true,4),.inl 7],
 (.seq (.reg [] [.o 3 (.bx (.k 0)),
 .o 6 (.al ([.b false,.f .f64 0,.i .i64 0,.i .i64 0])),
 .o 7 (.mv (.c (.b false)))] false [1,2,3,6] [3,6])
 (.seq (.seq (.reg [] [.o 9 (.mv (.t 2)),
 .o 10 (.nc (.k 9)),
 .o 11 (.fa 5 (.k 10)),
 .o 12 (.ld false 1 .cp (.k 11))] false [1,2,3,6,12] [3,6])
 (.blk 0 (.seq (.reg [] [.o 28 (.bin .eql (.t 12) (.c (.i .i64 0))),
 .o 27 (.mv (.k 28))] false [1,2,3,6,12,27] [3,6])
 (.cond 27 (.seq (.reg [] [.o 29 (.mv (.t 2)),
 .u 30 (.mv (.k 1)) [0] 0,
 .u 31 (.call n_cell_Memory_Read [.k 30,.c (.i .i64 1)]) [0] 0,
 .u 32 (.nc (.k 29)) [1,2] 0,
 .u 33 (.fa 11 (.k 32)) [1,2] 0,
 .o 34 (.ia 3 (some 2) (.k 33) (.c (.i .i64 0))),
 .s (.st 3 (.k 34) (.k 31))] true [2,3,6] [3,6])
 (.seq (.reg [] [.o 35 (.mv (.t 2)),
 .o 36 (.mv (.t 2)),
 .o 37 (.nc (.k 36)),
 .o 38 (.fa 11 (.k 37)),
 .o 39 (.ia 3 (some 2) (.k 38) (.c (.i .i64 0))),
 .o 40 (.fa 1 (.k 39)),
 .o 41 (.fa 0 (.k 40)),
 .o 42 (.ld false 1 .cp (.k 41)),
 .o 43 (.nc (.k 35)),
 .o 44 (.fa 8 (.k 43)),
 .s (.st 1 (.k 44) (.k 42))] false [2,3,6] [3,6])
 (.seq (.reg [] [.o 45 (.ld true 1 .cp (.t 3)),
 .o 46 (.mv (.t 2)),
 .o 47 (.call n_kfifo_Queue_begin [.k 45,.k 46])] false [2,3,6] [3,6])
 (.seq (.reg [] [.o 48 (.bd ([.b false,.f .f64 0,.i .i64 0,.i .i64 0]) []),
 .u 49 (.ld true 1 .cp (.k 3)) [0] 0,
 .u 50 (.mv (.k 2)) [0,1] 0,
 .u 51 (.nc (.k 50)) [0,1] 0,
 .u 52 (.fa 8 (.k 51)) [0,1] 0,
 .u 53 (.ld false 1 .cp (.k 52)) [0,1] 0,
 .u 54 (.call n_kfifo_Queue_Fits [.k 49,.k 53]) [0] 0,
 .u 55 (.un .not (.k 54)) [0] 0,
 ⟨none,none,.st 4 (.t 6) (.k 48),[7],0⟩,
 .o 7 (.mv (.k 55))] true [6,7] [6])
 .ret))))
 (.seq (.reg [] [.o 57 (.bin .eql (.t 12) (.c (.i .i64 1))),
 .o 56 (.mv (.k 57))] false [1,2,3,6,12,56] [3,6])
 (.cond 56 (.seq (.reg [] [.o 58 (.mv (.t 2)),
 .u 59 (.mv (.k 1)) [0] 0,
 .u 60 (.ld true 1 .cp (.t 3)) [0,1] 0,
 .u 61 (.mv (.t 2)) [0,1,2] 0,
 .u 62 (.call n_kfifo_Queue_slot [.k 60,.k 61]) [0,1] 0,
 .u 63 (.call n_cell_Memory_Read [.k 59,.k 62]) [0] 0,
 .u 64 (.nc (.k 58)) [1,2,3,4,5] 0,
 .u 65 (.fa 11 (.k 64)) [1,2,3,4,5] 0,
 .o 66 (.ia 3 (some 2) (.k 65) (.c (.i .i64 1))),
 .s (.st 3 (.k 66) (.k 63))] true [2,3,6] [3,6])
 (.seq (.seq (.reg [] [.o 67 (.mv (.t 2)),
 .o 68 (.nc (.k 67)),
 .o 69 (.fa 11 (.k 68)),
 .o 70 (.ia 3 (some 2) (.k 69) (.c (.i .i64 1))),
 .o 71 (.fa 1 (.k 70)),
 .o 72 (.fa 0 (.k 71)),
 .o 73 (.ld false 1 .cp (.k 72)),
 .o 74 (.bin .eql (.k 73) (.c (.i .i64 0)))] false [2,3,6,74] [3,6])
 (.cond 74 (.seq (.reg [] [.o 75 (.mv (.k 2)),
 .o 76 (.nc (.k 75)),
 .o 77 (.fa 5 (.k 76)),
 .s (.st 1 (.k 77) (.c (.i .i64 2)))] false [6] [6])
 (.seq (.reg [] [.o 78 (.bd ([.b false,.f .f64 0,.i .i64 0,.i .i64 0]) []),
 .s (.st 4 (.t 6) (.k 78)),
 .o 7 (.mv (.c (.b false)))] false [6,7] [6])
 .ret))
 .skip))
 (.seq (.seq (.reg [] [.o 79 (.mv (.t 2)),
 .o 80 (.nc (.t 79)),
 .o 81 (.fa 7 (.k 80)),
 .o 82 (.ld false 1 .cp (.k 81)),
 .o 83 (.bin .add (.k 82) (.c (.i .i64 1))),
 .o 84 (.nc (.k 79)),
 .o 85 (.fa 7 (.k 84)),
 .s (.st 1 (.k 85) (.k 83))] false [2,3,6] [3,6])
 (.seq (.reg [] [.o 86 (.mv (.t 2)),
 .o 87 (.nc (.k 86)),
 .o 88 (.fa 7 (.k 87)),
 .o 89 (.ld false 1 .cp (.k 88)),
 .u 90 (.fa 0 (.k 3)) [0,1,2,3] 0,
 .u 91 (.ld false 1 .cp (.k 90)) [0,1,2,3] 0,
 .o 92 (.bin .eql (.k 89) (.k 91))] true [2,6,92] [6])
 (.cond 92 (.reg [] [.o 93 (.mv (.k 2)),
 .o 94 (.nc (.k 93)),
 .o 95 (.fa 5 (.k 94)),
 .s (.st 1 (.k 95) (.c (.i .i64 3)))] false [6] [6])
 .skip)))
 (.seq (.reg [] [.o 96 (.bd ([.b false,.f .f64 0,.i .i64 0,.i .i64 0]) []),
 .s (.st 4 (.t 6) (.k 96)),
 .o 7 (.mv (.c (.b false)))] false [6,7] [6])
 .ret))))
 (.seq (.reg [] [.o 98 (.bin .eql (.k 12) (.c (.i .i64 2))),
 .o 97 (.mv (.k 98))] false [1,2,3,6,97] [3,6])
 (.cond 97 (.seq (.reg [] [.o 99 (.mv (.t 2)),
 .o 100 (.nc (.k 99)),
 .o 101 (.fa 0 (.k 100)),
 .o 102 (.fa 1 (.k 101)),
 .o 103 (.ld true 2 .cp (.k 102)),
 .o 104 (.call n_pile_Item_Canon [.k 103]),
 .o 8 (.al ([.f .f64 0,.i .i64 0])),
 .s (.st 2 (.t 8) (.k 104))] false [1,2,3,6,8] [3,6,8])
 (.seq (.reg [] [.o 105 (.mv (.k 1)),
 .u 106 (.ld true 1 .cp (.k 3)) [0] 0,
 .u 107 (.mv (.t 2)) [0,1] 0,
 .u 108 (.call n_kfifo_Queue_slot [.k 106,.k 107]) [0] 0,
 .u 109 (.mv (.t 2)) [0,1,2,3] 0,
 .u 110 (.nc (.k 109)) [0,1,2,3] 0,
 .u 111 (.fa 11 (.k 110)) [0,1,2,3] 0,
 .u 112 (.ia 3 (some 2) (.k 111) (.c (.i .i64 1))) [0,1,2,3] 0,
 .u 113 (.fa 0 (.k 112)) [0,1,2,3] 0,
 .u 114 (.ld false 1 .cp (.k 113)) [0,1,2,3] 0,
 .u 115 (.ld true 2 .cp (.t 8)) [0,1,2,3,4,5,6,7,8,9] 0,
 .u 116 (.bs 2 1 (.a ([.f .f64 0,.i .i64 0])) [(0,.k 115)]) [0,1,2,3,4,5,6,7,8,9] 1,
 .u 117 (.bd ([.i .i64 0,.l .o 2 []]) [(0,1,.c (.i .i64 1)),(1,1,.k 116)]) [0,1,2,3,4,5,6,7,8,9] 2,
 .o 118 (.call n_cell_Memory_Write [.k 105,.k 108,.k 114,.k 117])] true [2,6,8,118] [6,8])
 (.cond 118 (.seq (.reg [] [.o 119 (.ld true 2 .cp (.k 8)),
 .o 120 (.bd ([.b false,.f .f64 0,.i .i64 0,.i .i64 0]) [(0,1,.c (.b true)),(1,2,.k 119)]),
 .s (.st 4 (.t 6) (.k 120)),
 .o 7 (.mv (.c (.b true)))] false [6,7] [6])
 .ret)
 .skip)))
 (.reg [] [.o 13 (.mv (.k 1)),
 .u 14 (.mv (.t 2)) [0] 0,
 .u 15 (.nc (.k 14)) [0] 0,
 .u 16 (.fa 11 (.k 15)) [0] 0,
 .u 17 (.ia 3 (some 2) (.k 16) (.c (.i .i64 0))) [0] 0,
 .u 18 (.fa 0 (.k 17)) [0] 0,
 .u 19 (.ld false 1 .cp (.k 18)) [0] 0,
 .u 20 (.mv (.t 2)) [0,1,2,3,4,5,6] 0,
 .u 21 (.nc (.k 20)) [0,1,2,3,4,5,6] 0,
 .u 22 (.fa 8 (.k 21)) [0,1,2,3,4,5,6] 0,
 .u 23 (.ld false 1 .cp (.k 22)) [0,1,2,3,4,5,6] 0,
 .u 24 (.bin .add (.k 23) (.c (.i .i64 1))) [0,1,2,3,4,5,6] 0,
 .u 25 (.bd ([.i .i64 0,.l .o 2 []]) [(0,1,.k 24)]) [0,1,2,3,4,5,6] 2,
 .o 26 (.call n_cell_Memory_Write [.k 13,.c (.i .i64 1),.k 19,.k 25])] true [2,6] [6])))))))))
 (.seq (.reg [] [.o 121 (.mv (.k 2)),
 .o 122 (.nc (.k 121)),
 .o 123 (.fa 5 (.k 122)),
 .s (.st 1 (.k 123) (.c (.i .i64 0)))] false [6] [6])
 (.seq (.reg [] [.o 124 (.bd ([.b false,.f .f64 0,.i .i64 0,.i .i64 0]) []),
 .s (.st 4 (.t 6) (.k 124)),
 .o 7 (.mv (.c (.b false)))] false [6,7] [6])
 .ret))))⟩

def F_kfifo_Queue_deq : F := ⟨3,[.inr (6,true,4),.inl 7],
 (.seq (.reg [] [.o 3 (.bx (.k 0)),
 .o 6 (.al ([.b false,.f .f64 0,.i .i64 0,.i .i64 0])),
 .o 7 (.mv (.c (.b false)))] false [1,2,3,6] [3,6])
 (.seq (.seq (.reg [] [.o 9 (.mv (.t 2)),
 .o 10 (.nc (.k 9)),
 .o 11 (.fa 5 (.k 10)),
 .o 12 (.ld false 1 .cp (.k 11))] false [1,2,3,6,12] [3,6])
 (.blk 0 (.seq (.reg [] [.o 28 (.bin .eql (.t 12) (.c (.i .i64 0))),
 .o 27 (.mv (.k 28))] false [1,2,3,6,12,27] [3,6])
 (.cond 27 (.seq (.reg [] [.o 29 (.mv (.t 2)),
 .u 30 (.mv (.k 1)) [0] 0,
 .u 31 (.call n_cell_Memory_Read [.k 30,.c (.i .i64 0)]) [0] 0,
 .u 32 (.nc (.k 29)) [1,2] 0,
 .u 33 (.fa 11 (.k 32)) [1,2] 0,
 .o 34 (.ia 3 (some 2) (.k 33) (.c (.i .i64 0))),
 .s (.st 3 (.k 34) (.k 31))] true [2,6] [6])
 (.seq (.reg [] [.o 35 (.mv (.t 2)),
 .o 36 (.mv (.t 2)),
 .o 37 (.nc (.k 36)),
 .o 38 (.fa 11 (.k 37)),
 .o 39 (.ia 3 (some 2) (.k 38) (.c (.i .i64 0))),
 .o 40 (.fa 1 (.k 39)),
 .o 41 (.fa 0 (.k 40)),
 .o 42 (.ld false 1 .cp (.k 41)),
 .o 43 (.nc (.k 35)),
 .o 44 (.fa 8 (.k 43)),
 .s (.st 1 (.k 44) (.k 42))] false [2,6] [6])
 (.seq (.reg [] [.o 45 (.mv (.k 2)),
 .o 46 (.nc (.k 45)),
 .o 47 (.fa 5 (.k 46)),
 .s (.st 1 (.k 47) (.c (.i .i64 1)))] false [6] [6])
 (.seq (.reg [] [.o 48 (.bd ([.b false,.f .f64 0,.i .i64 0,.i .i64 0]) []),
 .s (.st 4 (.t 6) (.k 48)),
 .o 7 (.mv (.c (.b false)))] false [6,7] [6])
 .ret))))
 (.seq (.reg [] [.o 50 (.bin .eql (.t 12) (.c (.i .i64 1))),
 .o 49 (.mv (.k 50))] false [1,2,3,6,12,49] [3,6])
 (.cond 49 (.seq (.reg [] [.o 51 (.mv (.t 2)),
 .u 52 (.mv (.k 1)) [0] 0,
 .u 53 (.call n_cell_Memory_Read [.k 52,.c (.i .i64 1)]) [0] 0,
 .u 54 (.nc (.k 51)) [1,2] 0,
 .u 55 (.fa 11 (.k 54)) [1,2] 0,
 .o 56 (.ia 3 (some 2) (.k 55) (.c (.i .i64 1))),
 .s (.st 3 (.k 56) (.k 53))] true [2,3,6] [3,6])
 (.seq (.reg [] [.o 57 (.ld true 1 .cp (.k 3)),
 .o 58 (.mv (.k 2)),
 .o 59 (.call n_kfifo_Queue_begin [.k 57,.k 58])] false [6] [6])
 (.seq (.reg [] [.o 60 (.bd ([.b false,.f .f64 0,.i .i64 0,.i .i64 0]) []),
 .s (.st 4 (.t 6) (.k 60)),
 .o 7 (.mv (.c (.b false)))] false [6,7] [6])
 .ret)))
 (.seq (.reg [] [.o 62 (.bin .eql (.t 12) (.c (.i .i64 2))),
 .o 61 (.mv (.k 62))] false [1,2,3,6,12,61] [3,6])
 (.cond 61 (.seq (.reg [] [.o 63 (.ld true 1 .cp (.k 3)),
 .o 64 (.mv (.k 1)),
 .o 65 (.mv (.k 2)),
 .o 66 (.call n_kfifo_Queue_look [.k 63,.k 64,.k 65]),
 .o 67 (.ex false 0 66),
 .o 68 (.ex false 1 66),
 .s (.st 4 (.t 6) (.k 67)),
 .o 7 (.mv (.k 68))] false [6,7] [6])
 .ret)
 (.seq (.reg [] [.o 70 (.bin .eql (.t 12) (.c (.i .i64 3))),
 .o 69 (.mv (.k 70))] false [1,2,3,6,12,69] [3,6])
 (.cond 69 (.seq (.reg [] [.o 71 (.mv (.t 2)),
 .o 72 (.nc (.k 71)),
 .o 73 (.fa 11 (.k 72)),
 .o 74 (.ia 3 (some 2) (.k 73) (.c (.i .i64 1))),
 .o 75 (.ld true 3 .cp (.k 74)),
 .o 8 (.al ([.i .u64 0,.i .i64 0,.l .o 2 []])),
 .s (.st 3 (.t 8) (.k 75))] false [1,2,3,6,8] [3,6,8])
 (.seq (.reg [] [.o 76 (.mv (.k 1)),
 .u 77 (.ld true 1 .cp (.k 3)) [0] 0,
 .u 78 (.mv (.t 2)) [0,1] 0,
 .u 79 (.call n_kfifo_Queue_slot [.k 77,.k 78]) [0] 0,
 .u 80 (.fa 0 (.t 8)) [0,1,2,3] 0,
 .u 81 (.ld false 1 .cp (.k 80)) [0,1,2,3] 0,
 .u 82 (.bd ([.i .i64 0,.l .o 2 []]) [(0,1,.c (.i .i64 2))]) [0,1,2,3,4,5] 2,
 .o 83 (.call n_cell_Memory_Write [.k 76,.k 79,.k 81,.k 82])] true [2,6,8,83] [6,8])
 (.cond 83 (.seq (.reg [] [.o 84 (.fa 1 (.k 8)),
 .o 85 (.fa 1 (.k 84)),
 .o 86 (.ld false 1 .tk (.k 85)),
 .o 87 (.ia 2 none (.k 86) (.c (.i .i64 0))),
 .o 88 (.ld true 2 .cp (.k 87)),
 .o 89 (.bd ([.b false,.f .f64 0,.i .i64 0,.i .i64 0]) [(0,1,.c (.b true)),(1,2,.k 88)]),
 .s (.st 4 (.t 6) (.k 89)),
 .o 7 (.mv (.c (.b true)))] false [6,7] [6])
 .ret)
 .skip)))
 (.seq (.reg [] [.o 91 (.bin .eql (.k 12) (.c (.i .i64 4))),
 .o 90 (.mv (.k 91))] false [1,2,6,90] [6])
 (.cond 90 (.reg [] [.o 92 (.mv (.k 1)),
 .u 93 (.mv (.t 2)) [0] 0,
 .u 94 (.nc (.k 93)) [0] 0,
 .u 95 (.fa 11 (.k 94)) [0] 0,
 .u 96 (.ia 3 (some 2) (.k 95) (.c (.i .i64 1))) [0] 0,
 .u 97 (.fa 0 (.k 96)) [0] 0,
 .u 98 (.ld false 1 .cp (.k 97)) [0] 0,
 .u 99 (.mv (.t 2)) [0,1,2,3,4,5,6] 0,
 .u 100 (.nc (.k 99)) [0,1,2,3,4,5,6] 0,
 .u 101 (.fa 8 (.k 100)) [0,1,2,3,4,5,6] 0,
 .u 102 (.ld false 1 .cp (.k 101)) [0,1,2,3,4,5,6] 0,
 .u 103 (.bin .add (.k 102) (.c (.i .i64 1))) [0,1,2,3,4,5,6] 0,
 .u 104 (.bd ([.i .i64 0,.l .o 2 []]) [(0,1,.k 103)]) [0,1,2,3,4,5,6] 2,
 .o 105 (.call n_cell_Memory_Write [.k 92,.c (.i .i64 1),.k 98,.k 104])] true [2,6] [6])
 (.reg [] [.o 13 (.mv (.k 1)),
 .u 14 (.mv (.t 2)) [0] 0,
 .u 15 (.nc (.k 14)) [0] 0,
 .u 16 (.fa 11 (.k 15)) [0] 0,
 .u 17 (.ia 3 (some 2) (.k 16) (.c (.i .i64 0))) [0] 0,
 .u 18 (.fa 0 (.k 17)) [0] 0,
 .u 19 (.ld false 1 .cp (.k 18)) [0] 0,
 .u 20 (.mv (.t 2)) [0,1,2,3,4,5,6] 0,
 .u 21 (.nc (.k 20)) [0,1,2,3,4,5,6] 0,
 .u 22 (.fa 8 (.k 21)) [0,1,2,3,4,5,6] 0,
 .u 23 (.ld false 1 .cp (.k 22)) [0,1,2,3,4,5,6] 0,
 .u 24 (.bin .add (.k 23) (.c (.i .i64 1))) [0,1,2,3,4,5,6] 0,
 .u 25 (.bd ([.i .i64 0,.l .o 2 []]) [(0,1,.k 24)]) [0,1,2,3,4,5,6] 2,
 .o 26 (.call n_cell_Memory_Write [.k 13,.c (.i .i64 0),.k 19,.k 25])] true [2,6] [6])))))))))))))
 (.seq (.reg [] [.o 106 (.mv (.k 2)),
 .o 107 (.nc (.k 106)),
 .o 108 (.fa 5 (.k 107)),
 .s (.st 1 (.k 108) (.c (.i .i64 0)))] false [6] [6])
 (.seq (.reg [] [.o 109 (.bd ([.b false,.f .f64 0,.i .i64 0,.i .i64 0]) []),
 .s (.st 4 (.t 6) (.k 109)),
 .o 7 (.mv (.c (.b false)))] false [6,7] [6])
 .ret))))⟩

def F_kfifo_Queue_begin : F := ⟨2,[],
 (.seq (.reg [] [.o 2 (.bx (.k 0))] false [1,2] [2])
 (.seq (.reg [] [.o 4 (.mv (.t 1)),
 .u 5 (.mv (.t 1)) [0] 0,
 .u 6 (.mv (.t 1)) [0,1] 0,
 .u 7 (.mv (.t 1)) [0,1,2] 0,
 .u 8 (.nc (.k 7)) [0,1,2] 0,
 .u 9 (.fa 0 (.k 8)) [0,1,2] 0,
 .u 10 (.fa 3 (.k 9)) [0,1,2] 0,
 .u 11 (.ia 1 (some 2) (.k 10) (.c (.i .i64 0))) [0,1,2] 0,
 .u 12 (.ld false 1 .cp (.k 11)) [0,1,2] 0,
 .u 13 (.fa 0 (.k 2)) [0,1,2,3,4,5,6,7,8] 0,
 .u 14 (.ld false 1 .cp (.k 13)) [0,1,2,3,4,5,6,7,8] 0,
 .u 15 (.call n_op_Into [.k 12,.k 14]) [0,1,2] 0,
 .u 16 (.nc (.k 4)) [1,2] 0,
 .u 17 (.fa 6 (.k 16)) [1,2] 0,
 ⟨none,none,.st 1 (.k 17) (.k 15),[1,2],0⟩,
 .u 18 (.nc (.k 5)) [2] 0,
 .u 19 (.fa 7 (.k 18)) [2] 0,
 ⟨none,none,.st 1 (.k 19) (.c (.i .i64 0)),[2],0⟩,
 .o 20 (.nc (.k 6)),
 .o 21 (.fa 10 (.k 20)),
 .s (.st 1 (.k 21) (.c (.b false)))] true [1] [])
 (.reg [] [.o 22 (.mv (.k 1)),
 .o 23 (.nc (.t 22)),
 .o 24 (.fa 5 (.k 23)),
 .o 25 (.ld false 1 .cp (.k 24)),
 .o 26 (.bin .add (.k 25) (.c (.i .i64 1))),
 .o 27 (.nc (.k 22)),
 .o 28 (.fa 5 (.k 27)),
 .s (.st 1 (.k 28) (.k 26))] false [] [])))⟩

def F_kfifo_Queue_slot : F := ⟨2,[.inl 4],
 (.seq (.reg [] [.o 2 (.bx (.k 0)),
 .o 4 (.mv (.c (.i .i64 0)))] false [1,2] [2])
 (.seq (.reg [] [.o 5 (.ld true 1 .cp (.t 2)),
 .u 6 (.mv (.t 1)) [0] 0,
 .u 7 (.nc (.k 6)) [0] 0,
 .u 8 (.fa 8 (.k 7)) [0] 0,
 .u 9 (.ld false 1 .cp (.k 8)) [0] 0,
 .u 10 (.mv (.t 1)) [0,1,2,3,4] 0,
 .u 11 (.nc (.k 10)) [0,1,2,3,4] 0,
 .u 12 (.fa 6 (.k 11)) [0,1,2,3,4] 0,
 .u 13 (.ld false 1 .cp (.k 12)) [0,1,2,3,4] 0,
 .u 14 (.mv (.t 1)) [0,1,2,3,4,5,6,7,8] 0,
 .u 15 (.nc (.k 14)) [0,1,2,3,4,5,6,7,8] 0,
 .u 16 (.fa 7 (.k 15)) [0,1,2,3,4,5,6,7,8] 0,
 .u 17 (.ld false 1 .cp (.k 16)) [0,1,2,3,4,5,6,7,8] 0,
 .u 18 (.bin .add (.k 13) (.k 17)) [0,1,2,3,4] 0,
 .u 19 (.fa 0 (.t 2)) [0,1,2,3,4,5,6,7,8,9,10,11,12,13] 0,
 .u 20 (.ld false 1 .cp (.k 19)) [0,1,2,3,4,5,6,7,8,9,10,11,12,13] 0,
 .u 21 (.bin .rem (.k 18) (.k 20)) [0,1,2,3,4] 0,
 .o 22 (.call n_kfifo_Queue_Slot [.k 5,.k 9,.k 21]),
 .o 4 (.mv (.k 22))] true [4] [])
 .ret))⟩

def F_kfifo_Queue_look : F := ⟨3,[.inr (6,true,4),.inl 7],
 (.seq (.reg [] [.o 3 (.bx (.k 0)),
 .o 6 (.al ([.b false,.f .f64 0,.i .i64 0,.i .i64 0])),
 .o 7 (.mv (.c (.b false)))] false [1,2,3,6] [3,6])
 (.seq (.reg [] [.o 9 (.mv (.k 1)),
 .o 10 (.ld true 1 .cp (.t 3)),
 .o 11 (.mv (.t 2)),
 .o 12 (.call n_kfifo_Queue_slot [.k 10,.k 11]),
 .o 13 (.call n_cell_Memory_Read [.k 9,.k 12]),
 .o 8 (.al ([.i .u64 0,.i .i64 0,.l .o 2 []])),
 .s (.st 3 (.t 8) (.k 13))] false [2,3,6,8] [3,6,8])
 (.seq (.seq (.reg [] [.o 14 (.fa 1 (.t 8)),
 .o 15 (.fa 0 (.k 14)),
 .o 16 (.ld false 1 .cp (.k 15)),
 .o 17 (.bin .eql (.k 16) (.c (.i .i64 1)))] false [2,3,6,8,17] [3,6,8])
 (.cond 17 (.seq (.reg [] [.o 18 (.mv (.t 2)),
 .u 19 (.mv (.t 2)) [0] 0,
 .u 20 (.ld true 3 .cp (.k 8)) [0,1] 0,
 .u 21 (.nc (.k 18)) [1,2] 0,
 .u 22 (.fa 11 (.k 21)) [1,2] 0,
 .u 23 (.ia 3 (some 2) (.k 22) (.c (.i .i64 1))) [1] 0,
 ⟨none,none,.st 3 (.k 23) (.k 20),[1],0⟩,
 .o 24 (.nc (.k 19)),
 .o 25 (.fa 5 (.k 24)),
 .s (.st 1 (.k 25) (.c (.i .i64 3)))] true [6] [6])
 (.seq (.reg [] [.o 26 (.bd ([.b false,.f .f64 0,.i .i64 0,.i .i64 0]) []),
 .s (.st 4 (.t 6) (.k 26)),
 .o 7 (.mv (.c (.b false)))] false [6,7] [6])
 .ret))
 .skip))
 (.seq (.reg [] [.o 27 (.mv (.t 2)),
 .o 28 (.mv (.t 2)),
 .o 29 (.nc (.k 28)),
 .o 30 (.fa 10 (.k 29)),
 .o 31 (.ld false 1 .cp (.k 30)),
 .o 32 (.mv (.k 31)),
 .c 32 false 33 (.fa 1 (.k 8)),
 .c 32 false 34 (.fa 0 (.k 33)),
 .c 32 false 35 (.ld false 1 .cp (.k 34)),
 .c 32 false 36 (.bin .eql (.k 35) (.c (.i .i64 0))),
 .o 37 (.pick (.k 32) (.c (.b true)) (.k 36)),
 .o 38 (.nc (.k 27)),
 .o 39 (.fa 10 (.k 38)),
 .s (.st 1 (.k 39) (.k 37))] false [2,3,6] [3,6])
 (.seq (.seq (.reg [] [.o 40 (.mv (.t 2)),
 .o 41 (.nc (.t 40)),
 .o 42 (.fa 7 (.k 41)),
 .o 43 (.ld false 1 .cp (.k 42)),
 .o 44 (.bin .add (.k 43) (.c (.i .i64 1))),
 .o 45 (.nc (.k 40)),
 .o 46 (.fa 7 (.k 45)),
 .s (.st 1 (.k 46) (.k 44))] false [2,3,6] [3,6])
 (.seq (.reg [] [.o 47 (.mv (.t 2)),
 .o 48 (.nc (.k 47)),
 .o 49 (.fa 7 (.k 48)),
 .o 50 (.ld false 1 .cp (.k 49)),
 .u 51 (.fa 0 (.k 3)) [0,1,2,3] 0,
 .u 52 (.ld false 1 .cp (.k 51)) [0,1,2,3] 0,
 .o 53 (.bin .lss (.k 50) (.k 52))] true [2,6,53] [6])
 (.cond 53 (.seq (.reg [] [.o 54 (.bd ([.b false,.f .f64 0,.i .i64 0,.i .i64 0]) []),
 .s (.st 4 (.t 6) (.k 54)),
 .o 7 (.mv (.c (.b false)))] false [6,7] [6])
 .ret)
 .skip)))
 (.seq (.reg [] [.o 55 (.mv (.t 2)),
 .o 56 (.nc (.k 55)),
 .o 57 (.fa 5 (.k 56)),
 .s (.st 1 (.k 57) (.c (.i .i64 5)))] false [2,6] [6])
 (.seq (.seq (.reg [] [.o 58 (.mv (.t 2)),
 .o 59 (.nc (.k 58)),
 .o 60 (.fa 11 (.k 59)),
 .o 61 (.ia 3 (some 2) (.k 60) (.c (.i .i64 1))),
 .o 62 (.fa 1 (.k 61)),
 .o 63 (.fa 0 (.k 62)),
 .o 64 (.ld false 1 .cp (.k 63)),
 .u 65 (.mv (.t 2)) [0,1,2,3,4,5,6] 0,
 .u 66 (.nc (.k 65)) [0,1,2,3,4,5,6] 0,
 .u 67 (.fa 8 (.k 66)) [0,1,2,3,4,5,6] 0,
 .u 68 (.ld false 1 .cp (.k 67)) [0,1,2,3,4,5,6] 0,
 .o 69 (.bin .eql (.k 64) (.k 68))] true [2,6,69] [6])
 (.cond 69 (.reg [] [.o 70 (.mv (.t 2)),
 .o 71 (.nc (.k 70)),
 .o 72 (.fa 5 (.k 71)),
 .s (.st 1 (.k 72) (.c (.i .i64 4)))] false [2,6] [6])
 .skip))
 (.seq (.reg [] [.o 73 (.bd ([.b false,.f .f64 0,.i .i64 0,.i .i64 0]) []),
 .u 74 (.mv (.k 2)) [0] 0,
 .u 75 (.nc (.k 74)) [0] 0,
 .u 76 (.fa 10 (.k 75)) [0] 0,
 .u 77 (.ld false 1 .cp (.k 76)) [0] 0,
 ⟨none,none,.st 4 (.t 6) (.k 73),[1,2,3,4],0⟩,
 .o 7 (.mv (.k 77))] true [6,7] [6])
 .ret))))))))⟩

def F_tally_Tally_Step : F := ⟨3,[.inr (6,true,4),.inl 7],
 (.seq (.reg [] [.o 3 (.bx (.k 0)),
 .o 6 (.al ([.b false,.f .f64 0,.i .i64 0,.i .i64 0])),
 .o 7 (.mv (.c (.b false)))] false [1,2,3,6] [3,6])
 (.seq (.seq (.reg [] [.o 10 (.mv (.t 2)),
 .o 11 (.nc (.k 10)),
 .o 12 (.fa 0 (.k 11)),
 .o 13 (.fa 0 (.k 12)),
 .o 14 (.ld false 1 .cp (.k 13)),
 .o 15 (.bin .eql (.k 14) (.c (.i .i64 6)))] false [1,2,3,6,15] [3,6])
 (.cond 15 (.seq (.reg [] [.o 16 (.ld true 1 .cp (.k 3)),
 .o 17 (.mv (.k 1)),
 .o 18 (.mv (.k 2)),
 .o 19 (.call n_tally_Tally_sum [.k 16,.k 17,.k 18]),
 .o 20 (.ex false 0 19),
 .o 21 (.ex false 1 19),
 .s (.st 4 (.t 6) (.k 20)),
 .o 7 (.mv (.k 21))] false [6,7] [6])
 .ret)
 .skip))
 (.seq (.reg [] [.o 22 (.mv (.t 2)),
 .o 23 (.nc (.k 22)),
 .o 24 (.fa 0 (.k 23)),
 .o 25 (.fa 3 (.k 24)),
 .o 26 (.ia 1 (some 2) (.k 25) (.c (.i .i64 0))),
 .o 27 (.ld false 1 .cp (.k 26)),
 .u 28 (.fa 0 (.k 3)) [0,1,2,3,4,5] 0,
 .u 29 (.ld false 1 .cp (.k 28)) [0,1,2,3,4,5] 0,
 .o 30 (.call n_op_Into [.k 27,.k 29]),
 .o 8 (.mv (.k 30))] true [1,2,6,8] [6])
 (.seq (.reg [] [.o 31 (.mv (.t 2)),
 .o 32 (.nc (.k 31)),
 .o 33 (.fa 11 (.k 32)),
 .o 34 (.ia 3 (some 2) (.k 33) (.c (.i .i64 0))),
 .o 9 (.mv (.k 34))] false [1,2,6,8,9] [6])
 (.seq (.seq (.reg [] [.o 35 (.mv (.t 2)),
 .o 36 (.nc (.k 35)),
 .o 37 (.fa 5 (.k 36)),
 .o 38 (.ld false 1 .cp (.k 37)),
 .o 39 (.bin .eql (.k 38) (.c (.i .i64 0)))] false [1,2,6,8,9,39] [6])
 (.cond 39 (.seq (.reg [] [.o 40 (.mv (.k 9)),
 .o 41 (.mv (.k 1)),
 .o 42 (.mv (.k 8)),
 .o 43 (.call n_cell_Memory_Read [.k 41,.k 42]),
 .o 44 (.nc (.k 40)),
 .s (.st 3 (.k 44) (.k 43))] false [2,6] [6])
 (.seq (.reg [] [.o 45 (.mv (.k 2)),
 .o 46 (.nc (.k 45)),
 .o 47 (.fa 5 (.k 46)),
 .s (.st 1 (.k 47) (.c (.i .i64 1)))] false [6] [6])
 (.seq (.reg [] [.o 48 (.bd ([.b false,.f .f64 0,.i .i64 0,.i .i64 0]) []),
 .s (.st 4 (.t 6) (.k 48)),
 .o 7 (.mv (.c (.b false)))] false [6,7] [6])
 .ret)))
 .skip))
 (.seq (.seq (.reg [] [.o 49 (.mv (.k 1)),
 .u 50 (.mv (.k 8)) [0] 0,
 .u 51 (.mv (.t 9)) [0,1] 0,
 .u 52 (.nc (.k 51)) [0,1] 0,
 .u 53 (.fa 0 (.k 52)) [0,1] 0,
 .u 54 (.ld false 1 .cp (.k 53)) [0,1] 0,
 .u 55 (.mv (.t 9)) [0,1,2,3,4,5] 0,
 .u 56 (.nc (.k 55)) [0,1,2,3,4,5] 0,
 .u 57 (.fa 1 (.k 56)) [0,1,2,3,4,5] 0,
 .u 58 (.fa 0 (.k 57)) [0,1,2,3,4,5] 0,
 .u 59 (.ld false 1 .cp (.k 58)) [0,1,2,3,4,5] 0,
 .u 60 (.mv (.t 2)) [0,1,2,3,4,5,6,7,8,9,10] 0,
 .u 61 (.nc (.k 60)) [0,1,2,3,4,5,6,7,8,9,10] 0,
 .u 62 (.fa 0 (.k 61)) [0,1,2,3,4,5,6,7,8,9,10] 0,
 .u 63 (.fa 1 (.k 62)) [0,1,2,3,4,5,6,7,8,9,10] 0,
 .u 64 (.fa 1 (.k 63)) [0,1,2,3,4,5,6,7,8,9,10] 0,
 .u 65 (.ld false 1 .cp (.k 64)) [0,1,2,3,4,5,6,7,8,9,10] 0,
 .u 66 (.bin .add (.k 59) (.k 65)) [0,1,2,3,4,5] 0,
 .u 67 (.bd ([.i .i64 0,.l .o 2 []]) [(0,1,.k 66)]) [0,1,2,3,4,5] 2,
 .o 68 (.call n_cell_Memory_Write [.k 49,.k 50,.k 54,.k 67])] true [2,6,68] [6])
 (.cond 68 (.seq (.reg [] [.o 69 (.bd ([.b false,.f .f64 0,.i .i64 0,.i .i64 0]) [(0,1,.c (.b true))]),
 .s (.st 4 (.t 6) (.k 69)),
 .o 7 (.mv (.c (.b true)))] false [6,7] [6])
 .ret)
 .skip))
 (.seq (.reg [] [.o 70 (.mv (.k 2)),
 .o 71 (.nc (.k 70)),
 .o 72 (.fa 5 (.k 71)),
 .s (.st 1 (.k 72) (.c (.i .i64 0)))] false [6] [6])
 (.seq (.reg [] [.o 73 (.bd ([.b false,.f .f64 0,.i .i64 0,.i .i64 0]) []),
 .s (.st 4 (.t 6) (.k 73)),
 .o 7 (.mv (.c (.b false)))] false [6,7] [6])
 .ret))))))))⟩

def F_tally_Tally_sum : F := ⟨3,[.inr (6,true,4),.inl 7],
 (.seq (.reg [] [.o 3 (.bx (.k 0)),
 .o 6 (.al ([.b false,.f .f64 0,.i .i64 0,.i .i64 0])),
 .o 7 (.mv (.c (.b false)))] false [1,2,3,6] [3,6])
 (.seq (.reg [] [.o 8 (.mv (.t 2)),
 .o 9 (.nc (.t 8)),
 .o 10 (.fa 9 (.k 9)),
 .o 11 (.ld false 1 .cp (.k 10)),
 .u 12 (.mv (.k 1)) [0,1,2,3] 0,
 .u 13 (.mv (.t 2)) [0,1,2,3,4] 0,
 .u 14 (.nc (.k 13)) [0,1,2,3,4] 0,
 .u 15 (.fa 6 (.k 14)) [0,1,2,3,4] 0,
 .u 16 (.ld false 1 .cp (.k 15)) [0,1,2,3,4] 0,
 .u 17 (.call n_cell_Memory_Read [.k 12,.k 16]) [0,1,2,3] 0,
 .u 18 (.fd true 1 2 (.k 17)) [0,1,2,3] 0,
 .u 19 (.fd false 0 1 (.k 18)) [0,1,2,3] 0,
 .o 20 (.bin .add (.k 11) (.k 19)),
 .o 21 (.nc (.t 8)),
 .o 22 (.fa 9 (.k 21)),
 .s (.st 1 (.k 22) (.k 20))] true [2,3,6] [3,6])
 (.seq (.reg [] [.o 23 (.mv (.t 2)),
 .o 24 (.nc (.t 23)),
 .o 25 (.fa 6 (.k 24)),
 .o 26 (.ld false 1 .cp (.k 25)),
 .o 27 (.bin .add (.k 26) (.c (.i .i64 1))),
 .o 28 (.nc (.k 23)),
 .o 29 (.fa 6 (.k 28)),
 .s (.st 1 (.k 29) (.k 27))] false [2,3,6] [3,6])
 (.seq (.seq (.reg [] [.o 30 (.mv (.t 2)),
 .o 31 (.nc (.k 30)),
 .o 32 (.fa 6 (.k 31)),
 .o 33 (.ld false 1 .cp (.k 32)),
 .u 34 (.fa 0 (.k 3)) [0,1,2,3] 0,
 .u 35 (.ld false 1 .cp (.k 34)) [0,1,2,3] 0,
 .o 36 (.bin .lss (.k 33) (.k 35))] true [2,6,36] [6])
 (.cond 36 (.seq (.reg [] [.o 37 (.bd ([.b false,.f .f64 0,.i .i64 0,.i .i64 0]) []),
 .s (.st 4 (.t 6) (.k 37)),
 .o 7 (.mv (.c (.b false)))] false [6,7] [6])
 .ret)
 .skip))
 (.seq (.reg [] [.o 38 (.mv (.k 2)),
 .o 39 (.nc (.k 38)),
 .o 40 (.fa 9 (.k 39)),
 .o 41 (.ld false 1 .cp (.k 40)),
 .o 42 (.bd ([.b false,.f .f64 0,.i .i64 0,.i .i64 0]) [(0,1,.c (.b true)),(3,1,.k 41)]),
 .s (.st 4 (.t 6) (.k 42)),
 .o 7 (.mv (.c (.b true)))] false [6,7] [6])
 .ret)))))⟩

def F_pile_items_Len : F := ⟨1,[.inl 2],
 (.seq (.reg [.zz 0] [.o 2 (.mv (.c (.i .i64 0)))] false [0] [])
 (.seq (.reg [] [.o 3 (.mv (.k 0)),
 .o 4 (.len false (.k 3)),
 .o 2 (.mv (.k 4))] false [2] [])
 .ret))⟩

def F_pile_items_Less : F := ⟨3,[.inl 6],
 (.seq (.reg [.zz 0] [.o 6 (.mv (.c (.b false)))] false [0,1,2] [])
 (.seq (.reg [] [.o 7 (.mv (.t 0)),
 .u 8 (.mv (.k 1)) [0] 0,
 .o 9 (.ia 2 none (.k 7) (.k 8)),
 .o 10 (.ld true 2 .cp (.k 9)),
 .u 11 (.mv (.t 0)) [0,1,2,3] 0,
 .u 12 (.mv (.k 2)) [0,1,2,3,4] 0,
 .u 13 (.ia 2 none (.k 11) (.k 12)) [0,1,2,3] 0,
 .u 14 (.ld true 2 .cp (.k 13)) [0,1,2,3] 0,
 .o 15 (.call n_pile_Item_Cmp [.k 10,.k 14]),
 .o 16 (.bin .lss (.k 15) (.c (.i .i64 0))),
 .o 6 (.mv (.k 16))] true [6] [])
 .ret))⟩

def F_pile_items_Swap : F := ⟨3,[],
 (.reg [.thaw 0] [.o 6 (.mv (.t 0)),
 .u 7 (.mv (.t 1)) [0] 0,
 .u 8 (.mv (.t 0)) [0,1] 0,
 .u 9 (.mv (.t 2)) [0,1,2] 0,
 .u 10 (.mv (.t 0)) [0,1,2,3] 0,
 .u 11 (.mv (.t 2)) [0,1,2,3,4] 0,
 .u 12 (.ia 2 none (.k 10) (.k 11)) [0,1,2,3] 0,
 .u 13 (.ld true 2 .cp (.k 12)) [0,1,2,3] 0,
 .u 14 (.mv (.t 0)) [0,1,2,3,4,5,6,7] 0,
 .u 15 (.mv (.t 1)) [0,1,2,3,4,5,6,7,8] 0,
 .u 16 (.ia 2 none (.k 14) (.k 15)) [0,1,2,3,4,5,6,7] 0,
 .u 17 (.ld true 2 .cp (.k 16)) [0,1,2,3,4,5,6,7] 0,
 .u 18 (.ia 2 none (.k 6) (.k 7)) [2,3] 0,
 ⟨none,none,.st 2 (.k 18) (.k 13),[2,3],0⟩,
 .o 19 (.ia 2 none (.k 8) (.k 9)),
 .s (.st 2 (.k 19) (.k 17))] true [] [])⟩

def F_pile_items_Pop : F := ⟨1,[.inl 2],
 (.seq (.reg [] [.o 2 (.mv (.c (.nili)))] false [0] [])
 (.seq (.reg [] [.o 5 (.mv (.t 0)),
 .o 6 (.nc (.k 5)),
 .z 7 (.lda 1 (.k 6)) 1,
 .o 8 (.len false (.k 7)),
 .o 9 (.bin .sub (.k 8) (.c (.i .i64 1))),
 .o 3 (.mv (.k 9))] false [0,3] [])
 (.seq (.reg [] [.o 10 (.mv (.t 0)),
 .o 11 (.nc (.k 10)),
 .z 12 (.lda 1 (.k 11)) 1,
 .o 13 (.mv (.t 3)),
 .o 14 (.ia 2 none (.k 12) (.k 13)),
 .o 15 (.ld true 2 .cp (.k 14)),
 .o 4 (.al ([.f .f64 0,.i .i64 0])),
 .s (.st 2 (.t 4) (.k 15))] false [0,3,4] [4])
 (.seq (.reg [] [.o 16 (.mv (.t 0)),
 .o 17 (.mv (.k 0)),
 .o 18 (.nc (.k 17)),
 .o 19 (.ld false 1 .tk (.k 18)),
 .o 20 (.mv (.k 3)),
 .o 21 (.sl 2 (.k 19) none (some (.k 20)) none),
 .o 22 (.nc (.k 16)),
 .s (.st 1 (.k 22) (.k 21))] false [4] [4])
 (.seq (.reg [] [.o 23 (.ld true 2 .cp (.k 4)),
 .o 24 (.mi t_pile_Item (.k 23)),
 .o 2 (.mv (.k 24))] false [2] [])
 .ret)))))⟩

def F_pile_items_Push : F := ⟨2,[],
 (.reg [] [.o 4 (.mv (.t 0)),
 .u 5 (.mv (.t 0)) [0] 0,
 .u 6 (.nc (.k 5)) [0] 0,
 .u 7 (.ld false 1 .tk (.k 6)) [0] 0,
 .u 8 (.mv (.k 1)) [0,1,2,3] 0,
 .u 9 (.ta t_pile_Item (.k 8)) [0,1,2,3] 0,
 .u 10 (.bs 2 1 (.a ([.f .f64 0,.i .i64 0])) [(0,.k 9)]) [0,1,2,3] 0,
 .u 11 (.app 2 16 (.k 7) (.k 10)) [0] 0,
 .o 12 (.nc (.k 4)),
 .s (.st 1 (.k 12) (.k 11))] true [] [])⟩

def F_pile_items_Len_q : F := ⟨1,[.inl 2],
 (.seq (.reg [] [.o 2 (.mv (.c (.i .i64 0)))] false [0] [])
 (.seq (.reg [] [.o 3 (.mv (.k 0)),
 .o 4 (.len false (.k 3)),
 .o 2 (.mv (.k 4))] false [2] [])
 .ret))⟩

def F_pile_items_Less_q : F := ⟨3,[.inl 6],
 (.seq (.reg [] [.o 6 (.mv (.c (.b false)))] false [0,1,2] [])
 (.seq (.reg [] [.o 7 (.mv (.t 0)),
 .u 8 (.mv (.k 1)) [0] 0,
 .o 9 (.ia 2 none (.k 7) (.k 8)),
 .o 10 (.ld true 2 .cp (.k 9)),
 .u 11 (.mv (.t 0)) [0,1,2,3] 0,
 .u 12 (.mv (.k 2)) [0,1,2,3,4] 0,
 .u 13 (.ia 2 none (.k 11) (.k 12)) [0,1,2,3] 0,
 .u 14 (.ld true 2 .cp (.k 13)) [0,1,2,3] 0,
 .o 15 (.call n_pile_Item_Cmp [.k 10,.k 14]),
 .o 16 (.bin .lss (.k 15) (.c (.i .i64 0))),
 .o 6 (.mv (.k 16))] true [6] [])
 .ret))⟩

def F_pile_items_Swap_q : F := ⟨3,[],
 (.reg [] [.o 6 (.mv (.t 0)),
 .u 7 (.mv (.t 1)) [0] 0,
 .u 8 (.mv (.t 0)) [0,1] 0,
 .u 9 (.mv (.t 2)) [0,1,2] 0,
 .u 10 (.mv (.t 0)) [0,1,2,3] 0,
 .u 11 (.mv (.t 2)) [0,1,2,3,4] 0,
 .u 12 (.ia 2 none (.k 10) (.k 11)) [0,1,2,3] 0,
 .u 13 (.ld true 2 .cp (.k 12)) [0,1,2,3] 0,
 .u 14 (.mv (.t 0)) [0,1,2,3,4,5,6,7] 0,
 .u 15 (.mv (.t 1)) [0,1,2,3,4,5,6,7,8] 0,
 .u 16 (.ia 2 none (.k 14) (.k 15)) [0,1,2,3,4,5,6,7] 0,
 .u 17 (.ld true 2 .cp (.k 16)) [0,1,2,3,4,5,6,7] 0,
 .u 18 (.ia 2 none (.k 6) (.k 7)) [2,3] 0,
 ⟨none,none,.st 2 (.k 18) (.k 13),[2,3],0⟩,
 .o 19 (.ia 2 none (.k 8) (.k 9)),
 .s (.st 2 (.k 19) (.k 17))] true [] [])⟩

end Go.AM

namespace Go.AM
open Go.Proofs Go.Shelf Go.RowKit Go.Lib Go.Sort
theorem run_clear_cells {P : Program} (w : World) (t e ty : TypeId) (z : Value) (ht : P.underlying t = some (.slice e)) (hv : ∀ w, (zeroValue e).run P w = .ok z w) (b o n c : Nat) (hn : 0 < n) (zs : List Value) (hz : (Builtin.zeroCells z.cells n).toList = zs) (h1 : ∀ v ∈ zs, v.oneCell' = true)
    (hc : ∀ j, j < zs.length → (w.cell? ⟨b, o + j, none⟩).isSome = true) (hf : ∀ j, j < zs.length → w.frozen? ⟨b, o + j, none⟩ = false) :
    (Builtin.clear_ #[t] ty #[.slice (some ⟨b, o, none⟩) n c]).run P w = .ok (.tuple #[]) (w.setCells b o zs) := by
 have hst := run_storeCells_cells (P := P) b o zs 0 w (by simpa using hc) (by simpa using hf) h1
 simp only [Nat.add_zero] at hst
 obtain ⟨m, rfl⟩ : ∃ m, n = m + 1 := ⟨n - 1, by omega⟩
 simp [Builtin.clear_, run_underlying ht, hv, hz, hst]
def itZ : Value := .agg #[.float .f64 0, .int .i64 0]
def zsI (n : Nat) : List Value := (Builtin.zeroCells itZ.cells n).toList
theorem zsI_len (n : Nat) : (zsI n).length = n * 2 := by simp [zsI, Builtin.zeroCells, itZ, Value.cells]
theorem zsI_one (n : Nat) : ∀ v ∈ zsI n, v.oneCell' = true := by
 intro v hv
 have : v = .float .f64 0 ∨ v = .int .i64 0 := by
  simp [zsI, Builtin.zeroCells, itZ, Value.cells] at hv
  obtain ⟨i, hi, rfl⟩ := hv
  have : i % 2 = 0 ∨ i % 2 = 1 := by omega
  rcases this with h | h <;> simp [h]
 rcases this with rfl | rfl <;> rfl
theorem del_u : Tryz.prog.underlying 36 = some (.slice 53) := by kernel_rfl
theorem del_i : ∃ i : TypeInfo, Tryz.prog.info? 53 = some i ∧ i.size = 2 ∧ i.zero = some itZ := by
 have h : (Tryz.prog.info? 53).map (fun i => (i.size, i.zero)) = some (2, some itZ) := by kernel_rfl
 cases hi : Tryz.prog.info? 53 with
 | none => rw [hi] at h; cases h
 | some i => rw [hi] at h; simp at h; exact ⟨i, rfl, h.1, h.2⟩
theorem del_z : ∀ w, (zeroValue 53).run Tryz.prog w = .ok itZ w := by
 obtain ⟨i, h1, h2, h3⟩ := del_i
 intro w
 simp [zeroValue, typeInfo, h1, h3]
set_option maxHeartbeats 4000000 in
set_option maxRecDepth 1000000 in
theorem del_same (blk off cap n i : Nat) (w : World) (hi : i ≤ n) (hc : n ≤ cap) :
    Calls Tryz.prog 137 #[.slice (some ⟨blk, off, none⟩) n cap, .int .i64 i, .int .i64 i] w fun e w' => e = .returned (.slice (some ⟨blk, off, none⟩) n cap) ∧ w' = w := by
 go_enter Tryz.func137, Tryz.ntmps137
 go_wp2
 all_goals (go_ret; exact ⟨rfl, rfl⟩)
set_option maxHeartbeats 4000000 in
set_option maxRecDepth 1000000 in
theorem del_cells (blk off cap n i j : Nat) (us : List Value) (w : World) (hu : us.length = n * 2) (h1 : ∀ u ∈ us, u.oneCell' = true) (hc : ∀ (t : Nat) (u : Value), us[t]? = some u → w.cell? ⟨blk, off + t, none⟩ = some u)
    (hf : ∀ t, t < n * 2 → w.frozen? ⟨blk, off + t, none⟩ = false) (hij : i < j) (hj : j ≤ n) (hcap : n ≤ cap) :
    Calls Tryz.prog 137 #[.slice (some ⟨blk, off, none⟩) n cap, .int .i64 i, .int .i64 j] w fun e w' => e = .returned (.slice (some ⟨blk, off, none⟩) (n - (j - i)) cap) ∧
     w' = (w.drew.setCells blk (off + i * 2) (us.drop (j * 2))).setCells blk (off + (i + (n - j)) * 2) (zsI (j - i)) := by
 have mixed : Tryz.prog.follows .mixedOrders = true := by kernel_rfl
 obtain ⟨i0, hi0, hi2, hi3⟩ := del_i
 obtain ⟨news, hnews⟩ : ∃ news, news = us.drop (j * 2) := ⟨_, rfl⟩
 have hlen : news.length = (n - j) * 2 := by rw [hnews, List.length_drop, hu]; omega
 have hisSome : ∀ t, t < n * 2 → (w.cell? ⟨blk, off + t, none⟩).isSome = true := by
  intro t ht
  rw [hc t us[t] (List.getElem?_eq_getElem (by omega))]; rfl
 obtain ⟨A, hA, hsrc⟩ : ∃ A : Addr, (if cap = j then some (⟨blk, off, none⟩ : Addr) else some ⟨blk, off + j * 2, none⟩) = some A ∧ Hid (∀ (t : Nat) (u : Value), news[t]? = some u → w.drew.cell? (A.add t) = some u) := by
  by_cases h : cap = j
  ·refine ⟨⟨blk, off, none⟩, by simp [h], fun t u hu' => ?_⟩
   have h0 : news.length = 0 := by rw [hlen]; omega
   rw [List.length_eq_zero_iff.1 h0] at hu'
   simp at hu'
  ·refine ⟨⟨blk, off + j * 2, none⟩, by simp [h], fun t u hu' => ?_⟩
   rw [hnews, List.getElem?_drop] at hu'
   rw [Addr.add_lit, show off + j * 2 + t = off + (j * 2 + t) by omega]
   exact hc _ u hu'
 have s1 : Hid (news.length = (n - j) * 2) := hlen
 have s2 : Hid (∀ u ∈ news, u.oneCell' = true) := fun u hu' => h1 u (List.mem_of_mem_drop (by rw [← hnews]; exact hu'))
 have s3 : Hid (∀ t, t < news.length → (w.drew.cell? ⟨blk, off + i * 2 + t, none⟩).isSome = true ∧ w.drew.frozen? ⟨blk, off + i * 2 + t, none⟩ = false) := by
  intro t ht
  rw [hlen] at ht
  rw [Nat.add_assoc]
  exact ⟨hisSome _ (by omega), hf _ (by omega)⟩
 obtain ⟨W1, hW1⟩ : ∃ W1, W1 = w.drew.setCells blk (off + i * 2) news := ⟨_, rfl⟩
 have hc1 : ∀ t, t < n * 2 → (W1.cell? ⟨blk, off + t, none⟩).isSome = true := by
  intro t ht
  rw [hW1]
  exact isSome_setCells blk news (off + i * 2) w.drew _ (hisSome t ht)
 have hf1 : ∀ t, t < n * 2 → W1.frozen? ⟨blk, off + t, none⟩ = false := by
  intro t ht
  rw [hW1, World.frozen?_setCells]
  exact hf t ht
 obtain ⟨zz, hzz⟩ : ∃ zz, zz = zsI (n - (i + (n - j))) := ⟨_, rfl⟩
 have hzl : zz.length = (n - (i + (n - j))) * 2 := by rw [hzz, zsI_len]
 have hcl : ∀ ty, (Builtin.clear_ #[36] ty #[.slice (some ⟨blk, off + (i + (n - j)) * 2, none⟩) (n - (i + (n - j))) (cap - (i + (n - j)))]).run Tryz.prog W1 = .ok (.tuple #[]) (W1.setCells blk (off + (i + (n - j)) * 2) zz) :=
  fun ty => run_clear_cells W1 36 53 ty itZ del_u del_z blk (off + (i + (n - j)) * 2) _ _ (by omega) zz (by rw [hzz]; rfl) (by rw [hzz]; exact zsI_one _)
   (fun t ht => by rw [hzl] at ht; rw [Nat.add_assoc]; exact hc1 _ (by omega)) (fun t ht => by rw [hzl] at ht; rw [Nat.add_assoc]; exact hf1 _ (by omega))
 have hW : Hid (W1 = w.drew.setCells blk (off + i * 2) news) := hW1
 have hic : i ≤ cap := by omega
 have hjc : j ≤ cap := by omega
 have hZ : Hid (zz = zsI (n - (i + (n - j)))) := hzz
 have hN : Hid (news = us.drop (j * 2)) := hnews
 clear hW1 hzz hnews hlen hisSome hc1 hf1 hc hf h1 hu hzl
 go_enter Tryz.func137, Tryz.ntmps137
 go_wp2_with fail
 go_region_law_o (refine step_append_room rfl (.tmp 22) (.tmp 25) 36 rfl 53 i0 2 del_u hi0 hi2 blk off i cap (by simp [Act.eval, Act.put]) A (n - j) (cap - j) news (by simp [Act.eval, Act.put]) s1.out hsrc.out s2.out (by omega) s3.out ?_; rw [← hW.out])
 go_wp2
 go_ret
 refine ⟨by rw [show n - (j - i) = i + (n - j) by omega]; rfl, ?_⟩
 rw [hW.out, hZ.out, hN.out, show n - (i + (n - j)) = j - i by omega]
set_option maxHeartbeats 4000000 in
set_option maxRecDepth 1000000 in
theorem del_nil (w : World) : Calls Tryz.prog 137 #[.slice none 0 0, .int .i64 0, .int .i64 0] w fun e w' => e = .returned (.slice none 0 0) ∧ w' = w := by
 go_enter Tryz.func137, Tryz.ntmps137
 go_wp2
 all_goals (go_ret; exact ⟨rfl, rfl⟩)
end Go.AM

namespace Go.AM
open Go.Proofs Go.Shelf Go.RowKit Go.Lib Go.Sort
set_option maxHeartbeats 4000000 in
set_option maxRecDepth 1000000 in
theorem cln_nil (w : World) : Calls Tryz.prog 77 #[.slice none 0 0] w fun e w' => e = .returned (.slice none 0 0) ∧ w' = w := by
 have mixed : Tryz.prog.follows .mixedOrders = true := by kernel_rfl
 have heq : ∀ w, (binOp .eql 36 (.slice none 0 0) (.slice none 0 0)).run Tryz.prog w = .ok (.bool true) w := fun w => run_eql_slice_nil w 36 53 none 0 0 0 0 del_u
 go_enter Tryz.func77, Tryz.ntmps77
 go_wp2
 all_goals (go_ret; exact ⟨rfl, rfl⟩)
set_option maxHeartbeats 4000000 in
set_option maxRecDepth 1000000 in
theorem cln_empty (a : Addr) (cap : Nat) (w : World) :
    Calls Tryz.prog 77 #[.slice (some a) 0 cap] w fun e w' => e = .returned (.slice (some ⟨w.heap.size, 0, none⟩) 0 0) ∧ w' = w.alloc (.cells #[] 53) := by
 have mixed : Tryz.prog.follows .mixedOrders = true := by kernel_rfl
 have heq : ∀ w, (binOp .eql 36 (.slice (some a) 0 cap) (.slice none 0 0)).run Tryz.prog w = .ok (.bool false) w := fun w => run_eql_slice_nil w 36 53 (some a) 0 cap 0 0 del_u
 go_enter Tryz.func77, Tryz.ntmps77
 go_wp2
 all_goals (go_ret; exact ⟨rfl, rfl⟩)
set_option maxHeartbeats 4000000 in
set_option maxRecDepth 1000000 in
theorem cln_some (a : Addr) (n cap : Nat) (w : World) (us : Array Value) (hn : 0 < n) (hlim : n * 16 ≤ 140737488355328)
    (hload : (loadCellsFrom a 0 (n * 2) #[]).run Tryz.prog (w.alloc (.cells #[] 53)).drew = .ok us (w.alloc (.cells #[] 53)).drew) :
    Calls Tryz.prog 77 #[.slice (some a) n cap] w fun e w' => e = .returned (.slice (some ⟨w.heap.size + 1, 0, none⟩) n ((Question.appendCap n 0 53).cut (w.tape w.drawn (Question.appendCap n 0 53)))) ∧
     w' = (w.alloc (.cells #[] 53)).drew.alloc (.cells (us ++ Builtin.zeroCells #[.float .f64 0, .int .i64 0] ((Question.appendCap n 0 53).cut (w.tape w.drawn (Question.appendCap n 0 53)) - n)) 53) := by
 have mixed : Tryz.prog.follows .mixedOrders = true := by kernel_rfl
 have heq : ∀ w, (binOp .eql 36 (.slice (some a) n cap) (.slice none 0 0)).run Tryz.prog w = .ok (.bool false) w := fun w => run_eql_slice_nil w 36 53 (some a) n cap 0 0 del_u
 go_enter Tryz.func77, Tryz.ntmps77
 go_wp2
 ·exfalso
  have hb : Tryz.t53.bytes = 16 := by kernel_rfl
  have h2 := growslice_fits (need := n) (old := 0) (bytes := 16) hn hlim
  simp only [hb] at *
  omega
 ·go_ret
  exact ⟨rfl, rfl⟩
end Go.AM

namespace Go.AM
open Go.Proofs
theorem del_enters : Enters Tryz.prog 137 := enters_of Tryz.func137 (by kernel_rfl) rfl
theorem take_drop_cells {xs : List D} {i j sz : Nat} (hs : ∀ x ∈ xs, x.cells.length = sz) (hij : i ≤ j) (hj : j ≤ xs.length) :
    cellsOf xs = cellsOf (xs.take i) ++ (cellsOf ((xs.take j).drop i) ++ cellsOf (xs.drop j)) ∧ (cellsOf (xs.take i)).length = i * sz ∧ (cellsOf ((xs.take j).drop i)).length = (j - i) * sz := by
 refine ⟨?_, ?_, ?_⟩
 ·rw [← cellsOf_append, ← cellsOf_append]
  congr 1
  have e1 : xs = xs.take j ++ xs.drop j := (List.take_append_drop j xs).symm
  have e2 : xs.take j = xs.take i ++ (xs.take j).drop i := by
   have := List.take_append_drop i (xs.take j)
   rw [List.take_take, Nat.min_eq_left hij] at this
   exact this.symm
  rw [← List.append_assoc, ← e2]; exact e1
 ·rw [cellsOf_length (fun x hx => hs x (List.mem_of_mem_take hx)), List.length_take, Nat.min_eq_left (by omega)]
 ·rw [cellsOf_length (fun x hx => hs x (List.mem_of_mem_take (List.mem_of_mem_drop hx))), List.length_drop, List.length_take, Nat.min_eq_left hj]
theorem lib_del {sg : List (List D)} {w : World} {g : G} {F0 : List Nat} {F : Site → List Nat} {vs : List Value} {Fx : List Nat} {xs : List D} {i j : Nat} (hij : i ≤ j) (hj : j ≤ xs.length)
    (h : Sm ⟨w, g.im, g.gl, sg, F0, 0⟩ g F ⟨[], [], sg, sg.length⟩ ⟨#[], []⟩ w [.l .x 2 xs, .i .i64 i, .i .i64 j] vs Fx) :
    Calls Tryz.prog 137 vs.toArray w (fun e w' => match e with
     | .returned v => ∃ g' F' Fx', Sm ⟨w, g.im, g.gl, sg, F0, 0⟩ g' F' ⟨[], [], sg, sg.length⟩ ⟨#[], []⟩ w' [.l .x 2 (xs.take i ++ xs.drop j)] [v] Fx'
     | _ => False) := by
 obtain ⟨v, us1, A, C, e1, e2, r1, r2⟩ := RVs.cons_inv h.ex
 obtain ⟨rfl, rfl⟩ : us1 = [.int .i64 i, .int .i64 j] ∧ C = [] := by
  cases r2 with
  | i k n h2 => cases h2 with
   | i k n h3 => cases h3; exact ⟨rfl, rfl⟩
 subst e1
 rw [List.append_nil] at e2
 subst e2
 have hnd := h.dj.ndx
 have r1' := r1
 rcases l_inv r1 with ⟨rfl, ev, rfl⟩ | ⟨_, hkz, _⟩ | ⟨b, o, cap, us, G, ev, hcap, hs, h1c, hcc, hk⟩
 ·have hj0 : j = 0 := by simpa using hj
  subst hj0
  have hi0 : i = 0 := by omega
  subst hi0
  subst ev
  refine (del_nil w).mono ?_
  rintro e w' ⟨rfl, rfl⟩
  exact ⟨g, F, [], h.weaken _ _ _ (by simpa using r1') (by simp) List.nodup_nil⟩
 ·rcases hkz with hk | hk <;> cases hk
 ·rcases hk with ⟨hk, _⟩ | ⟨hk, _⟩ | ⟨_, rfl, ⟨c, tt, ff, hb1, hb2, hb3, hb4⟩, him, hucell⟩
  ·rcases hk with hk | hk <;> cases hk
  ·cases hk
  subst ev
  by_cases heq : i = j
  ·subst heq
   refine (del_same b o cap xs.length i w hj hcap).mono ?_
   rintro e w' ⟨rfl, rfl⟩
   exact ⟨g, F, b :: G, h.weaken _ _ _ (by simpa using r1') (fun c hc => hc) hnd⟩
  ·have hlt : i < j := by omega
   have hul : us.length = xs.length * 2 := by rw [← hcc.length, cellsOf_length hs]
   refine (del_cells b o cap xs.length i j us w hul h1c hucell (fun t ht => hb3 _ (by omega)) hlt hj hcap).mono ?_
   rintro e w' ⟨rfl, rfl⟩
   obtain ⟨k1, k2, k3, k4, k5, k6⟩ := heap_setCells b (us.drop (j * 2)) (o + i * 2) w.drew c tt ff hb1 (by simp; omega)
   obtain ⟨q1, q2, q3, q4, q5, q6⟩ := heap_setCells b (zsI (j - i)) (o + (i + (xs.length - j)) * 2) _ _ tt ff k1 (by simp [zsI_len]; omega)
   have hsome : ∀ t, t < xs.length * 2 → (w.drew.cell? ⟨b, o + t, none⟩).isSome = true := by
    intro t ht
    have := hucell t us[t] (List.getElem?_eq_getElem (by omega))
    show (w.cell? _).isSome = true
    rw [this]; rfl
   obtain ⟨d1, d2, d3⟩ := take_drop_cells hs hij hj
   have hcc' := hcc
   rw [d1] at hcc'
   obtain ⟨u1, u23, G1, G23, e1, e2, l1, s1, s23⟩ := RVs.append_inv _ hcc'
   obtain ⟨u2, u3, G2, G3, e3, e4, l2, s2, s3⟩ := RVs.append_inv _ s23
   rw [d2] at l1
   rw [d3] at l2
   subst e4
   subst e2
   have hu1 : us.take (i * 2) = u1 := by rw [e1, ← l1]; simp
   have hu3 : us.drop (j * 2) = u3 := by
    rw [e1, e3, show j * 2 = u1.length + u2.length by omega, ← List.append_assoc, ← List.length_append, List.drop_left]
   have hGn := (List.nodup_cons.1 hnd)
   have hbG : b ∉ G1 ++ (G2 ++ G3) := hGn.1
   have hsub : (G1 ++ G3).Sublist (G1 ++ (G2 ++ G3)) := List.Sublist.append_left (List.sublist_append_right G2 G3) G1
   have hch : Chg ⟨w, g.im, g.gl, sg, F0, 0⟩ g g w.drew ((w.drew.setCells b (o + i * 2) (us.drop (j * 2))).setCells b (o + (i + (xs.length - j)) * 2) (zsI (j - i))) (b :: (G1 ++ (G2 ++ G3))) := by
    refine ⟨fun c' hc' => (q2 c' (by rintro rfl; simp at hc')).trans (k2 c' (by rintro rfl; simp at hc')), q3.trans k3, fun c' j u e => e, fun _ _ _ => rfl, ?_, rfl, rfl, q4.trans k4, q5.trans k5, q6.trans k6⟩
    intro c' j u e1
    have hcb : c' ≠ b := by rintro rfl; rw [him] at e1; cases e1
    exact (World.cell?_of_block (w := w.drew) (a := ⟨c', j, none⟩) ((q2 c' hcb).trans (k2 c' hcb))).trans (h.imok _ _ _ e1)
   have hfr : ∀ {es ts K}, (∀ c ∈ K, c ∈ G1 ++ (G2 ++ G3)) → g.rv w es ts K → g.rv ((w.drew.setCells b (o + i * 2) (us.drop (j * 2))).setCells b (o + (i + (xs.length - j)) * 2) (zsI (j - i))) es ts K :=
    fun hK hr => hr.frame (fun _ _ _ e => e) (fun _ _ e => e) (fun c hc => ⟨fun _ => rfl, (q2 c (by rintro rfl; exact hbG (hK _ hc))).trans (k2 c (by rintro rfl; exact hbG (hK _ hc)))⟩)
   have hcell : ∀ (t : Nat) (u : Value), (u1 ++ u3)[t]? = some u → ((w.drew.setCells b (o + i * 2) (us.drop (j * 2))).setCells b (o + (i + (xs.length - j)) * 2) (zsI (j - i))).cell? ⟨b, o + t, none⟩ = some u := by
    intro t u ht
    have htl : t < i * 2 + (xs.length - j) * 2 := by
     have := (List.getElem?_eq_some_iff.1 ht).1
     rw [List.length_append, l1, ← hu3, List.length_drop, hul] at this
     omega
    rw [World.cell?_setCells_out b _ _ _ _ (fun _ _ => .inl (by simp only; omega))]
    by_cases hti : t < i * 2
    ·rw [World.cell?_setCells_out b _ _ _ _ (fun _ _ => .inl (by simp only; omega))]
     rw [List.getElem?_append_left (by omega), ← hu1, List.getElem?_take, if_pos hti] at ht
     exact hucell t u ht
    ·obtain ⟨r, hr⟩ : ∃ r, t = i * 2 + r := ⟨t - i * 2, by omega⟩
     subst hr
     rw [List.getElem?_append_right (by omega), l1, Nat.add_sub_cancel_left, ← hu3] at ht
     obtain ⟨hrl, hru⟩ := List.getElem?_eq_some_iff.1 ht
     have := World.cell?_setCells_in b (us.drop (j * 2)) (o + i * 2) w.drew (fun q hq => by
      rw [Nat.add_assoc]; exact hsome _ (by simp [hul] at hq; omega)) r hrl
     rw [hru] at this
     rw [← Nat.add_assoc]; exact this
   have hx := RVs.lx (im := g.im) (gl := g.gl) (w := (w.drew.setCells b (o + i * 2) (us.drop (j * 2))).setCells b (o + (i + (xs.length - j)) * 2) (zsI (j - i))) 2 (xs.take i ++ xs.drop j) b o cap (u1 ++ u3) (by simp; omega)
    (fun y hy => by rcases List.mem_append.1 hy with hy | hy; exact hs y (List.mem_of_mem_take hy); exact hs y (List.mem_of_mem_drop hy)) hcell
    (fun u hu => by
     rcases List.mem_append.1 hu with hu | hu
     ·rw [← hu1] at hu; exact h1c u (List.mem_of_mem_take hu)
     ·rw [← hu3] at hu; exact h1c u (List.mem_of_mem_drop hu))
    ⟨_, tt, ff, q1, by simp [zsI_len, hul]; omega, fun q hq => by rw [World.frozen?_setCells, World.frozen?_setCells]; exact hb3 q (by simp [zsI_len, hul] at hq; omega), hb4⟩ him
    (by rw [cellsOf_append]; exact (hfr (fun c hc => by simp only [List.mem_append]; exact .inl hc) s1).append (hfr (fun c hc => by simp only [List.mem_append]; exact .inr (.inr hc)) s3)) .nil
   have hlen : (xs.take i ++ xs.drop j).length = xs.length - (j - i) := by simp; omega
   rw [hlen] at hx
   refine ⟨g, F, b :: (G1 ++ G3), (h.drew).setx hch (by simpa using hx) ?_ ?_⟩
   ·exact List.nodup_cons.2 ⟨fun hm => hbG (hsub.subset hm), hsub.nodup hGn.2⟩
   ·intro c hc
    rcases List.mem_cons.1 hc with rfl | hc
    ·simp
    ·exact List.mem_cons_of_mem _ (hsub.subset hc)
def delL : List D → Option D
 | [.l .x 2 xs, .i .i64 i, .i .i64 j] => if 0 ≤ i ∧ i ≤ j ∧ j.toNat ≤ xs.length then some (.l .x 2 (xs.take i.toNat ++ xs.drop j.toNat)) else none
 | _ => none
theorem delL_inv {ds : List D} {d : D} (h : delL ds = some d) : ∃ xs i j, ds = [.l .x 2 xs, .i .i64 ((i : Nat) : Int), .i .i64 ((j : Nat) : Int)] ∧ i ≤ j ∧ j ≤ xs.length ∧ d = .l .x 2 (xs.take i ++ xs.drop j) := by
 unfold delL at h
 split at h
 ·rename_i xs i j
  split at h
  ·rename_i hc
   cases h
   exact ⟨xs, i.toNat, j.toNat, by rw [show ((i.toNat : Nat) : Int) = i by omega, show ((j.toNat : Nat) : Int) = j by omega], by omega, hc.2.2, rfl⟩
  ·cases h
 ·cases h
end Go.AM

namespace Go.AM
open Go.Proofs Go.Lib
theorem cln_enters : Enters Tryz.prog 77 := enters_of Tryz.func77 (by kernel_rfl) rfl
def clnD (xs : List D) : D := if xs.length = 0 then .l .n 2 [] else .l .x 2 xs
theorem lib_cln {sg : List (List D)} {w : World} {g : G} {F0 : List Nat} {F : Site → List Nat} {vs : List Value} {Fx : List Nat} {xs : List D} (hlim : xs.length * 16 ≤ 140737488355328)
    (h : Sm ⟨w, g.im, g.gl, sg, F0, 0⟩ g F ⟨[], [], sg, sg.length⟩ ⟨#[], []⟩ w [.l .z 2 xs] vs Fx) :
    Calls Tryz.prog 77 vs.toArray w (fun e w' => match e with
     | .returned v => ∃ g' F' Fx', Sm ⟨w, g.im, g.gl, sg, F0, 0⟩ g' F' ⟨[], [], sg, sg.length⟩ ⟨#[], []⟩ w' [clnD xs] [v] Fx'
     | _ => False) := by
 obtain ⟨v, rfl⟩ := h.ex.single
 rcases l_inv h.ex with ⟨rfl, ev, _⟩ | ⟨rfl, _, _, x0, cap, _, ev⟩ | ⟨b, o, cap, us, G, ev, hcap, hs, h1c, hcc, hk⟩
 ·subst ev
  refine (cln_nil w).mono ?_
  rintro e w' ⟨rfl, rfl⟩
  exact ⟨g, F, [], h.drop (.lnil .n _ .nil)⟩
 ·subst ev
  refine (cln_empty x0 cap w).mono ?_
  rintro e w' ⟨rfl, rfl⟩
  exact ⟨g, F, [], (h.alloc (.cells #[] 53)).drop (.lez .n (.inr rfl) _ _ 0 (fun _ => rfl) .nil)⟩
 ·subst ev
  rcases hk with ⟨_, rfl, rfl, _, him⟩ | ⟨hk, _⟩ | ⟨hk, _⟩
  rotate_left
  ·cases hk
  ·cases hk
  by_cases h0 : xs.length = 0
  ·have hx0 : xs = [] := List.length_eq_zero_iff.1 h0
   subst hx0
   refine (cln_empty ⟨b, o, none⟩ cap w).mono ?_
   rintro e w' ⟨rfl, rfl⟩
   exact ⟨g, F, [], (h.alloc (.cells #[] 53)).drop (.lez .n (.inr rfl) _ _ 0 (fun _ => rfl) .nil)⟩
  ·have hul : us.length = xs.length * 2 := by rw [← hcc.length, cellsOf_length hs]
   have hcell : ∀ (j : Nat) (u : Value), us[j]? = some u → (w.alloc (.cells #[] 53)).drew.cell? ⟨b, o + j, none⟩ = some u := fun j u e => cell?_alloc_some _ (h.imok _ _ _ (him j u e))
   have hload : (loadCellsFrom ⟨b, o, none⟩ 0 (xs.length * 2) #[]).run Tryz.prog (w.alloc (.cells #[] 53)).drew = .ok us.toArray (w.alloc (.cells #[] 53)).drew := by
    have := run_loadCells_list (P := Tryz.prog) (w.alloc (.cells #[] 53)).drew ⟨b, o, none⟩ us (fun j u e => by rw [add_addr]; exact hcell j u e)
    rw [hul] at this
    exact this
   refine (cln_some ⟨b, o, none⟩ xs.length cap w us.toArray (by omega) hlim hload).mono ?_
   rintro e w' ⟨rfl, rfl⟩
   have hge : xs.length ≤ (Question.appendCap xs.length 0 53).cut (w.tape w.drawn (Question.appendCap xs.length 0 53)) := grownCap_ge (w.alloc (.cells #[] 53)) xs.length 0 53
   have k1 := (h.alloc (.cells #[] 53)).drew
   have k2 := k1.weaken (cellsOf xs) us [] (hcc.frame (fun _ _ _ e => e) (fun _ _ e => e) (by simp)) (by simp) List.nodup_nil
   generalize (Question.appendCap xs.length 0 53).cut (w.tape w.drawn (Question.appendCap xs.length 0 53)) = cc at *
   have k3 := k2.newx 2 xs us (us.toArray ++ Builtin.zeroCells #[.float .f64 0, .int .i64 0] (cc - xs.length)) 53 cc k2.ex h1c hs (fun j u hj => by
       have hjl : j < us.length := (List.getElem?_eq_some_iff.1 hj).1
       rw [Array.getElem?_append_left (by simpa using hjl)]
       simpa using hj) hge (by rw [Array.size_append, size_zeroCells]; simp [hul]; omega)
   refine ⟨g, F, [w.heap.size + 1], ?_⟩
   have : clnD xs = .l .x 2 xs := by unfold clnD; rw [if_neg h0]
   rw [this]
   simpa using k3
def clnL : List D → Option D
 | [.l .z 2 xs] => if xs.length * 16 ≤ 140737488355328 then some (clnD xs) else none
 | _ => none
theorem clnL_inv {ds : List D} {d : D} (h : clnL ds = some d) : ∃ xs, ds = [.l .z 2 xs] ∧ xs.length * 16 ≤ 140737488355328 ∧ d = clnD xs := by
 unfold clnL at h
 split at h
 ·rename_i xs
  split at h
  ·rename_i hc
   cases h
   exact ⟨xs, rfl, hc, rfl⟩
  ·cases h
 ·cases h
theorem toldF {E : En} (hl : ∀ f ds d, E.lib f ds = some d → (f = 137 ∧ delL ds = some d) ∨ (f = 77 ∧ clnL ds = some d)) : LibF Tryz.prog E := by
 intro f ds d h
 rcases hl f ds d h with ⟨hf, hd⟩ | ⟨hf, hd⟩
 ·subst hf
  obtain ⟨xs, i, j, rfl, h1, h2, rfl⟩ := delL_inv hd
  exact ⟨by decide, del_enters, fun sg w g F0 F vs Fx hs => lib_del h1 h2 hs⟩
 ·subst hf
  obtain ⟨xs, rfl, h1, rfl⟩ := clnL_inv hd
  exact ⟨by decide, cln_enters, fun sg w g F0 F vs Fx hs => lib_cln h1 hs⟩
end Go.AM

namespace Go.Proofs
open Go.Shelf
def Tryz.sortV_ren : Go.Shelf.Ren := ⟨fun | 6 => 128 | 15 => 173 | 14 => 172 | 28 => 195 | 29 => 196 | 20 => 187 | 21 => 188 | 22 => 189 | 23 => 190 | 24 => 191 | 25 => 192 | 26 => 193 | 27 => 194 | 46 => 200 | 47 => 201 | 48 => 202 | 49 => 203 | 50 => 204 | 57 => 207 | n => n, fun | 22 => 180 | 24 => 141 | 25 => 256 | 3 => 3 | 39 => 305 | 0 => 0 | 53 => 327 | 55 => 65 | 4 => 4 | 46 => 321 | 45 => 320 | 50 => 292 | 5 => 5 | 9 => 9 | 66 => 338 | 70 => 341 | 76 => 343 | 77 => 25 | n => n, fun | n => n⟩
theorem Tryz.sortV : Go.Proofs.SlLaysF0.n6 Tryz.prog Tryz.sortV_ren := {
 mixed := by kernel_rfl
 f6 := ⟨Tryz.f128.name, by decide, Tryz.func128.trans (congrArg some (by kernel_rfl))⟩
 f14 := ⟨Tryz.f172.name, by decide, Tryz.func172.trans (congrArg some (by kernel_rfl))⟩
 f15 := Tryz.func173.trans (congrArg some (by kernel_rfl))
 f20 := ⟨Tryz.f187.name, by decide, Tryz.func187.trans (congrArg some (by kernel_rfl))⟩
 f21 := ⟨Tryz.f188.name, by decide, Tryz.func188.trans (congrArg some (by kernel_rfl))⟩
 f22 := ⟨Tryz.f189.name, by decide, Tryz.func189.trans (congrArg some (by kernel_rfl))⟩
 f23 := ⟨Tryz.f190.name, by decide, Tryz.func190.trans (congrArg some (by kernel_rfl))⟩
 f24 := ⟨Tryz.f191.name, by decide, Tryz.func191.trans (congrArg some (by kernel_rfl))⟩
 f25 := ⟨Tryz.f192.name, by decide, Tryz.func192.trans (congrArg some (by kernel_rfl))⟩
 f26 := ⟨Tryz.f193.name, by decide, Tryz.func193.trans (congrArg some (by kernel_rfl))⟩
 f27 := ⟨Tryz.f194.name, by decide, Tryz.func194.trans (congrArg some (by kernel_rfl))⟩
 f28 := Tryz.func195.trans (congrArg some (by kernel_rfl))
 f29 := Tryz.func196.trans (congrArg some (by kernel_rfl))
 f46 := ⟨Tryz.f200.name, by decide, Tryz.func200.trans (congrArg some (by kernel_rfl))⟩
 f47 := Tryz.func201.trans (congrArg some (by kernel_rfl))
 f48 := Tryz.func202.trans (congrArg some (by kernel_rfl))
 f49 := ⟨Tryz.f203.name, by decide, Tryz.func203.trans (congrArg some (by kernel_rfl))⟩
 f50 := ⟨Tryz.f204.name, by decide, Tryz.func204.trans (congrArg some (by kernel_rfl))⟩
 f57 := ⟨Tryz.f207.name, by decide, Tryz.func207.trans (congrArg some (by kernel_rfl))⟩
 t0 := Tryz.underlying0
 a0 := Tryz.isAgg0
 z0 := Tryz.sizeOf0
 v0 := Tryz.zeroValue0
 t3 := Tryz.underlying3
 a3 := Tryz.isAgg3
 z3 := Tryz.sizeOf3
 v3 := Tryz.zeroValue3
 t4 := Tryz.underlying4
 a4 := Tryz.isAgg4
 z4 := Tryz.sizeOf4
 v4 := Tryz.zeroValue4
 t5 := Tryz.underlying5
 a5 := Tryz.isAgg5
 z5 := Tryz.sizeOf5
 v5 := Tryz.zeroValue5
 t9 := Tryz.underlying9
 a9 := Tryz.isAgg9
 z9 := Tryz.sizeOf9
 v9 := Tryz.zeroValue9
 t22 := Tryz.underlying180
 a22 := Tryz.isAgg180
 z22 := Tryz.sizeOf180
 v22 := Tryz.zeroValue180
 t25 := Tryz.underlying256
 a25 := Tryz.isAgg256
 z25 := Tryz.sizeOf256
 v25 := Tryz.zeroValue256
 t39 := Tryz.underlying305
 a39 := Tryz.isAgg305
 z39 := Tryz.sizeOf305
 v39 := Tryz.zeroValue305
 t45 := Tryz.underlying320
 a45 := Tryz.isAgg320
 z45 := Tryz.sizeOf320
 v45 := Tryz.zeroValue320
 t46 := Tryz.underlying321
 a46 := Tryz.isAgg321
 z46 := Tryz.sizeOf321
 v46 := Tryz.zeroValue321
 t50 := Tryz.underlying292
 a50 := Tryz.isAgg292
 z50 := Tryz.sizeOf292
 v50 := Tryz.zeroValue292
 t53 := Tryz.underlying327
 a53 := Tryz.isAgg327
 z53 := Tryz.sizeOf327
 v53 := Tryz.zeroValue327
 t55 := Tryz.underlying65
 a55 := Tryz.isAgg65
 z55 := Tryz.sizeOf65
 v55 := Tryz.zeroValue65
 t66 := Tryz.underlying338
 a66 := Tryz.isAgg338
 z66 := Tryz.sizeOf338
 v66 := Tryz.zeroValue338
 t70 := Tryz.underlying341
 a70 := Tryz.isAgg341
 z70 := Tryz.sizeOf341
 v70 := Tryz.zeroValue341
 t76 := Tryz.underlying343
 a76 := Tryz.isAgg343
 z76 := Tryz.sizeOf343
 v76 := Tryz.zeroValue343
 t77 := Tryz.underlying25
 a77 := Tryz.isAgg25
 z77 := Tryz.sizeOf25
 v77 := Tryz.zeroValue25 }
end Go.Proofs
namespace Go.AM
open Go.Proofs Go.Shelf Go.RowKit Go.Lib Go.Sort
def verD : D → Int
 | .a (.i .u64 v :: _) => v
 | _ => -1
def okV (d : D) : Bool := decide (0 ≤ verD d) && decide (verD d < 4611686018427387904)
def leVer (a b : D) : Bool := decide (verD a ≤ verD b)
def srtV (xs : List D) : Option (List D) := if xs.all okV = true ∧ (xs.map verD).Nodup ∧ xs.length < 4611686018427387904 then some (xs.mergeSort leVer) else none
set_option maxHeartbeats 1000000 in
theorem srt_cmp (x y : Int) (hx : 0 ≤ x ∧ x < 4611686018427387904) (hy : 0 ≤ y ∧ y < 4611686018427387904) (a a' b b' : Value) (ha : a.oneCell' = true) (ha' : a'.oneCell' = true) (hb : b.oneCell' = true) (hb' : b'.oneCell' = true) (W : World) :
    Calls Tryz.prog 129 #[.agg #[.int .u64 x, a, a'], .agg #[.int .u64 y, b, b']] W fun e w' => e = .returned (.int .i64 (x - y)) ∧ ∃ q os', w' = grow (W.drewN q) os' := by
 have w1 : IntKind.i64.wrap x = x := by simp [IntKind.wrap, IntKind.signed, IntKind.bits]; omega
 have w2 : IntKind.i64.wrap y = y := by simp [IntKind.wrap, IntKind.signed, IntKind.bits]; omega
 have w3 : IntKind.i64.wrap (x - y) = x - y := by simp [IntKind.wrap, IntKind.signed, IntKind.bits]; omega
 go_enter Tryz.func129, Tryz.ntmps129
 go_wp2
 go_ret
 exact ⟨rfl, 0, _, by rw [alloc_eq_grow, alloc_eq_grow, grow_grow]; rfl⟩
def srtL : FuncId → FuncId → Nat → List D → Option (List D) := fun f g sz xs => if f = 128 ∧ g = 129 ∧ sz = 3 then srtV xs else none
theorem srt_row {im : Nat → Nat → Option Value} {gl : Nat → Option Nat} {w : World} {d : D} {us : List Value} {F : List Nat} (h : RVs im gl w d.cells us F) (ho : okV d = true) (hl : us.length = 3) :
    ∃ a b, us = [.int .u64 (verD d), a, b] ∧ 0 ≤ verD d ∧ verD d < 4611686018427387904 := by
 obtain ⟨h0, h1⟩ : 0 ≤ verD d ∧ verD d < 4611686018427387904 := by simpa [okV] using ho
 have hd : ∃ v r, d = .a (.i .u64 v :: r) := by
  unfold verD at h0; split at h0
  ·exact ⟨_, _, rfl⟩
  ·omega
 obtain ⟨v, r, rfl⟩ := hd
 have h' : RVs im gl w (.i .u64 v :: r) us F := h
 obtain ⟨u, us', A, B, rfl, rfl, h2, _⟩ := RVs.cons_inv h'
 cases h2
 match us', hl with
 | [a, b], _ => exact ⟨a, b, rfl, h0, h1⟩
theorem flat_get {k : Nat} (hk : 0 < k) : ∀ (rows : List (List Value)), (∀ r ∈ rows, r.length = k) → ∀ t : Nat, rows.flatten[t]? = (rows[t / k]?).bind (·[t % k]?)
 | [], _, t => by simp
 | r :: rows, h, t => by
  have hr : r.length = k := h r (by simp)
  rw [List.flatten_cons]
  by_cases ht : t < k
  ·rw [List.getElem?_append_left (by omega), Nat.div_eq_of_lt ht, Nat.mod_eq_of_lt ht]; simp
  ·have e1 : t / k = (t - k) / k + 1 := by rw [Nat.div_eq_sub_div hk (by omega)]
   have e2 : t % k = (t - k) % k := by rw [Nat.mod_eq_sub_mod (by omega)]
   rw [List.getElem?_append_right (by omega), hr, flat_get hk rows (fun r hr => h r (by simp [hr])), e1, e2]
   simp
theorem flat_len {k : Nat} : ∀ (rows : List (List Value)), (∀ r ∈ rows, r.length = k) → rows.flatten.length = rows.length * k
 | [], _ => by simp
 | r :: rows, h => by
  rw [List.flatten_cons, List.length_append, flat_len rows (fun r hr => h r (by simp [hr])), h r (by simp), List.length_cons, Nat.add_mul]; omega
theorem flatK_get {n : Nat} [Inhabited (Fin n)] (enc : Fin n → List Value) (k : Nat) (hk : 0 < k) (he : ∀ x, (enc x).length = k) (l : List (Fin n)) (t : Nat) (ht : t < l.length * k) :
    (flatK enc k l.toArray)[t]? = ((l.map enc).flatten)[t]? := by
 have hdiv : t / k < l.length := (Nat.div_lt_iff_lt_mul hk).2 ht
 have hmod : t % k < k := Nat.mod_lt _ hk
 have h1 : t < (flatK enc k l.toArray).size := by simpa using ht
 have h2 := get_flatK enc k l.toArray t (by simpa using ht)
 rw [flat_get hk (l.map enc) (fun r hr => by obtain ⟨x, _, rfl⟩ := List.mem_map.1 hr; exact he x) t]
 rw [Array.getElem?_eq_getElem h1]
 rw [getElem!_pos _ t h1] at h2
 rw [h2, List.getElem?_map, List.getElem?_eq_getElem hdiv]
 have e : (l.toArray)[t / k]! = l[t / k] := by rw [getElem!_pos l.toArray (t / k) (by simpa using hdiv)]; simp
 simp only [Option.map_some, Option.bind_some, e]
 have hl : t % k < (enc l[t / k]).length := by rw [he]; exact hmod
 rw [List.getElem?_eq_getElem hl, getElem!_pos (enc l[t / k]) (t % k) hl]
theorem srtF : SrtOK Tryz.prog srtL := by
 intro f g sz xs ys h
 unfold srtL at h
 split at h
 ·rename_i hc
  obtain ⟨rfl, rfl, rfl⟩ := hc
  unfold srtV at h
  split at h
  ·rename_i hc
   obtain ⟨hall, hnd, hlen62⟩ := hc
   cases h
   have eS : Enters Tryz.prog 128 := Tryz.sortV.f6.enters rfl
   have eG : ∀ args w, (callFunc 129 args).run Tryz.prog w = .ok (.enter 129 args) w := enters_of Tryz.func129 (by kernel_rfl) rfl
   refine ⟨eS, fun e => by subst e; simp, fun e p cap w => ?_, ?_⟩
   ·subst e; exact AnyF.slices_SortFunc_none Tryz.sortV p cap _ w
   ·intro zs hz hne hrow
    subst hz
    have hn0 : 0 < zs.length := List.length_pos_iff.2 hne
    haveI : Inhabited (Fin zs.length) := ⟨⟨0, hn0⟩⟩
    have hmem : ∀ i : Fin zs.length, zs.get i ∈ zs := fun i => List.get_mem zs i
    have hr : ∀ i : Fin zs.length, ∃ a b, (zs.get i).2.1 = [.int .u64 (verD (zs.get i).1), a, b] ∧ 0 ≤ verD (zs.get i).1 ∧ verD (zs.get i).1 < 4611686018427387904 := by
     intro i
     obtain ⟨h1, h2, im, gl, w, h3⟩ := hrow _ (hmem i)
     exact srt_row h3 (List.all_eq_true.1 hall _ (List.mem_map.2 ⟨_, hmem i, rfl⟩)) h1
    obtain ⟨enc, henc⟩ : ∃ enc : Fin zs.length → List Value, enc = fun i => (zs.get i).2.1 := ⟨_, rfl⟩
    obtain ⟨ver, hver⟩ : ∃ ver : Fin zs.length → Int, ver = fun i => verD (zs.get i).1 := ⟨_, rfl⟩
    have hr' : ∀ i, ∃ a b, enc i = [.int .u64 (ver i), a, b] ∧ 0 ≤ ver i ∧ ver i < 4611686018427387904 := by rw [henc, hver]; exact hr
    have hk : ∀ i, (enc i).length = 3 := by intro i; obtain ⟨a, b, e, _⟩ := hr' i; rw [e]; rfl
    have h1 : ∀ i, ∀ v ∈ enc i, v.oneCell' = true := by rw [henc]; exact fun i => (hrow _ (hmem i)).2.1
    obtain ⟨cf, hcf⟩ : ∃ cf : Fin zs.length → Fin zs.length → Int, cf = fun i j => ver i - ver j := ⟨_, rfl⟩
    have hlt : ∀ i j, ltOf cf i j = decide (ver i < ver j) := by
     intro i j
     unfold ltOf
     rw [hcf]
     simp only [decide_eq_decide]
     omega
    have hO : SWO (ltOf cf) := ⟨fun x => by rw [hlt]; simp, fun x y z h1 h2 => by rw [hlt] at *; simp at *; omega, fun x y z h1 h2 => by rw [hlt] at *; simp at *; omega⟩
    have hT : ∀ i j, ltOf cf i j = false → ltOf cf j i = false → i = j := by
     intro i j h1 h2
     rw [hlt] at h1 h2
     simp only [decide_eq_false_iff_not, Int.not_lt] at h1 h2
     have e : ver i = ver j := by omega
     rw [hver] at e
     have hp := List.pairwise_iff_getElem.1 hnd
     rcases Nat.lt_trichotomy i.val j.val with h | h | h
     ·exact absurd (by simpa using e) (hp i.val j.val (by simp) (by simp) h)
     ·exact Fin.ext h
     ·exact absurd (by simpa using e.symm) (hp j.val i.val (by simp) (by simp) h)
    obtain ⟨sl, hsl⟩ : ∃ sl, sl = (List.finRange zs.length).mergeSort (fun x y => !(ltOf cf) y x) := ⟨_, rfl⟩
    have hslp : List.Perm sl (List.finRange zs.length) := by rw [hsl]; exact List.mergeSort_perm _ _
    have hsll : sl.length = zs.length := by rw [hslp.length_eq]; simp
    have hzg : (List.finRange zs.length).map zs.get = zs := by
     apply List.ext_getElem
     ·simp
     ·intro i h1 h2; simp
    refine ⟨sl.map zs.get, ?_, ?_, ?_⟩
    ·have := hslp.map zs.get
     rwa [hzg] at this
    ·have e : zs.map (·.1) = (List.finRange zs.length).map (fun i => (zs.get i).1) := by
      conv => lhs; rw [← hzg]
      rw [List.map_map]; rfl
     rw [e, hsl, List.map_map]
     refine (List.map_mergeSort (s := leVer) (f := fun i : Fin zs.length => (zs.get i).1) (fun i _ j _ => ?_)).trans rfl
     rw [hlt, hver]
     simp only [leVer]
     rw [← decide_not]
     simp only [decide_eq_decide]
     omega
    ·intro w b o cap c t f' hb hfz hsz hcells
     have hrows : (zs.map (·.2.1)) = (List.finRange zs.length).map enc := by
      conv => lhs; rw [← hzg]
      rw [List.map_map, henc]; rfl
     have hrows' : ((sl.map zs.get).map (·.2.1)) = sl.map enc := by rw [List.map_map, henc]; rfl
     rw [hrows] at hsz hcells
     rw [hrows']
     have hfl : ∀ l : List (Fin zs.length), (l.map enc).flatten.length = l.length * 3 := by
      intro l
      rw [flat_len (k := 3) _ (fun r hr => by obtain ⟨x, _, rfl⟩ := List.mem_map.1 hr; exact hk x)]; simp
     have hbl : b < w.heap.size := by rw [Array.getElem?_eq_some_iff] at hb; exact hb.1
     have hH : HoldsK enc 3 w b o (List.finRange zs.length).toArray := by
      intro j hj
      have hj' : j < (List.finRange zs.length).length * 3 := by simpa using hj
      have e1 := flatK_get enc 3 (by decide) hk (List.finRange zs.length) j hj'
      have hjs : j < (flatK enc 3 (List.finRange zs.length).toArray).size := hj
      rw [Array.getElem?_eq_getElem hjs] at e1
      rw [hfl] at hsz
      refine ⟨?_, hfz _ (by omega)⟩
      have := hcells j _ e1.symm
      rw [cell_of_row _ _ _ _ _ _ hb, getElem!_pos _ j hjs]
      exact this
     have hcmp : CmpLays Tryz.prog 129 #[] enc 3 cf b o (List.finRange zs.length).toArray.size w := by
      intro m os dk hs x y
      obtain ⟨a1, a2, ea, ha⟩ := hr' x
      obtain ⟨b1, b2, eb, hb'⟩ := hr' y
      have hxa := h1 x
      have hya := h1 y
      rw [ea] at hxa ⊢
      rw [eb] at hya ⊢
      have := srt_cmp (ver x) (ver y) ha hb' a1 a2 b1 b2 (hxa _ (by simp)) (hxa _ (by simp)) (hya _ (by simp)) (hya _ (by simp)) (sortWorldK enc 3 w b o m dk os)
      rw [hcf]
      simpa using this
     have hcon := AnyQ.slices_SortFunc_total Tryz.sortV 3 (run_isAgg (by kernel_rfl)) (run_sizeOf (by kernel_rfl)) enc hk h1 cf hO 129 #[] b o cap (List.finRange zs.length).toArray w eG hcmp hH hbl (by
      simpa using hlen62) hT
     have hs0 : (List.finRange zs.length).toArray.size = (zs.map (·.1)).length := by simp
     rw [hs0] at hcon
     refine hcon.mono ?_
     rintro e w' ⟨rfl, m, os, rfl⟩
     refine ⟨rfl, ?_⟩
     rw [show (List.finRange zs.length).toArray.toList = List.finRange zs.length from rfl, ← hsl]
     have hF : (flatK enc 3 sl.toArray).size = (sl.map enc).flatten.length := by rw [hfl]; simp
     obtain ⟨Fl, hFl⟩ : ∃ Fl, Fl = flatK enc 3 sl.toArray := ⟨_, rfl⟩
     rw [← hFl] at hF
     have hFg : ∀ j, j < (sl.map enc).flatten.length → Fl[j]? = (sl.map enc).flatten[j]? := by
      intro j hj
      rw [hFl]
      exact flatK_get enc 3 (by decide) hk sl j (by rw [hfl] at hj; exact hj)
     have hW : sortWorldK enc 3 w b o m sl.toArray os = { w with drawn := w.drawn + m, heap := w.heap.modify b (onCells (putCells id o Fl)) ++ os } := by rw [hFl]; rfl
     rw [hW]
     have hlo : o + (sl.map enc).flatten.length ≤ c.size := by rw [hfl] at hsz ⊢; rw [hsll]; simpa using hsz
     refine ⟨rfl, rfl, rfl, by simp, fun x hx hxb => ?_, c, t, f', putCells id o Fl c, hb, ?_, by simp [putCells], fun j => ?_⟩
     ·show (w.heap.modify b (onCells (putCells id o Fl)) ++ os)[x]? = w.heap[x]?
      rw [Array.getElem?_append_left (by simpa using hx), Array.getElem?_modify, if_neg (fun e => hxb e.symm)]
     ·show (w.heap.modify b (onCells (putCells id o Fl)) ++ os)[b]? = _
      rw [Array.getElem?_append_left (by simpa using hbl), Array.getElem?_modify, if_pos rfl, hb]
      rfl
     ·unfold putCells
      rw [Array.getElem?_mapIdx]
      by_cases hj : o ≤ j ∧ j < o + (sl.map enc).flatten.length
      ·have hjc : j < c.size := by omega
       rw [if_pos hj, Array.getElem?_eq_getElem hjc, Option.map_some, hF, if_pos hj, ← hFg _ (by omega)]
       have hjF : j - o < Fl.size := by omega
       rw [Array.getElem?_eq_getElem hjF, getElem!_pos Fl (j - o) hjF]; rfl
      ·rw [if_neg hj]
       cases hcj : c[j]? with
       | none => rfl
       | some v => rw [Option.map_some, hF, if_neg hj]
  ·cases h
 ·cases h
end Go.AM

/- The table of the functions. -/
namespace Go.AM
set_option linter.unusedVariables false
def tab : List (Nat × F) := [(n_c_law12_ValueOf, F_c_law12_ValueOf), (n_c_law12_awake, F_c_law12_awake), (n_c_law12_Kind, F_c_law12_Kind), (n_c_law12_Drive, F_c_law12_Drive), (n_c_law12_ValueOf_1, F_c_law12_ValueOf_1), (n_value_Of, F_value_Of), (n_c_law12_Is, F_c_law12_Is), (n_c_ref12_Of, F_c_ref12_Of), (n_cell_New, F_cell_New), (n_value_Value_Same, F_value_Value_Same), (n_value_Value_After, F_value_Value_After), (n_pile_Sorted, F_pile_Sorted), (n_c_law06_Run_Same, F_c_law06_Run_Same), (n_c_law06_Own, F_c_law06_Own), (n_pile_Item_Cmp, F_pile_Item_Cmp), (n_cell_Memory_Clock, F_cell_Memory_Clock), (n_c_law04_Are, F_c_law04_Are), (n_c_law12_Machine, F_c_law12_Machine), (n_c_law12_Drive_1, F_c_law12_Drive_1), (n_c_ref12_Step, F_c_ref12_Step), (n_c_law06_Drive, F_c_law06_Drive), (n_op_Legal, F_op_Legal), (n_value_bag, F_value_bag), (n_value_line, F_value_line), (n_value_sum, F_value_sum), (n_net_New, F_net_New), (n_net_Net_Out, F_net_Net_Out), (n_c_ref08_All, F_c_ref08_All), (n_c_ref09_All, F_c_ref09_All), (n_c_ref07_Sum, F_c_ref07_Sum), (n_c_ref11_Total, F_c_ref11_Total), (n_c_ref10_Count, F_c_ref10_Count), (n_slices_EqualFunc_pile_Item_pile_Item_pile_Item_pile_Item_1, F_slices_EqualFunc_pile_Item_pile_Item_pile_Item_pile_Item_1), (n_value_Value_Same_1, F_value_Value_Same_1), (n_op_Op_Check, F_op_Op_Check), (n_pile_Item_Canon, F_pile_Item_Canon), (n_value_Value_without, F_value_Value_without), (n_c_ref04_Cmp, F_c_ref04_Cmp), (n_c_law04_Own, F_c_law04_Own), (n_pile_New, F_pile_New), (n_pile_Pile_All, F_pile_Pile_All), (n_cell_Memory_Len, F_cell_Memory_Len), (n_c_ref05_Len, F_c_ref05_Len), (n_c_ref05_Read, F_c_ref05_Read), (n_cell_Memory_Read, F_cell_Memory_Read), (n_c_law05_Is, F_c_law05_Is), (n_c_ref06_Of, F_c_ref06_Of), (n_c_ref06_Into, F_c_ref06_Into), (n_op_Into, F_op_Into), (n_real_Cmp, F_real_Cmp), (n_c_law04_Is, F_c_law04_Is), (n_multi_New, F_multi_New), (n_kfifo_New, F_kfifo_New), (n_tally_New, F_tally_New), (n_c_ref08_Step, F_c_ref08_Step), (n_c_ref09_Step, F_c_ref09_Step), (n_c_ref07_Step, F_c_ref07_Step), (n_c_ref11_Step, F_c_ref11_Step), (n_c_law06_Told, F_c_law06_Told), (n_c_law06_IsAnswer, F_c_law06_IsAnswer), (n_value_line_1, F_value_line_1), (n_wire_Make, F_wire_Make), (n_c_ref04_With, F_c_ref04_With), (n_c_ref10_Merge, F_c_ref10_Merge), (n_op_Of, F_op_Of), (n_real_Canon, F_real_Canon), (n_slices_IndexFunc_pile_Item_pile_Item, F_slices_IndexFunc_pile_Item_pile_Item), (n_value_Value_without_1, F_value_Value_without_1), (n_c_ref03_Cmp, F_c_ref03_Cmp), (n_c_ref03_Bits, F_c_ref03_Bits), (n_c_law03_F, F_c_law03_F), (n_container_heap_Init, F_container_heap_Init), (n_pile_Pile_Take, F_pile_Pile_Take), (n_cell_Value_Clone, F_cell_Value_Clone), (n_real_Key, F_real_Key), (n_c_ref08_insert, F_c_ref08_insert), (n_c_ref05_Write, F_c_ref05_Write), (n_c_ref09_enq, F_c_ref09_enq), (n_c_ref09_look, F_c_ref09_look), (n_c_ref09_slot, F_c_ref09_slot), (n_c_ref09_again, F_c_ref09_again), (n_c_ref11_more, F_c_ref11_more), (n_c_ref04_Make, F_c_ref04_Make), (n_wire_Plan_count, F_wire_Plan_count), (n_c_ref10_pick, F_c_ref10_pick), (n_c_ref03_Key, F_c_ref03_Key), (n_cell_Memory_Write, F_cell_Memory_Write), (n_kfifo_Queue_Slot, F_kfifo_Queue_Slot), (n_container_heap_down, F_container_heap_down), (n_container_heap_Pop, F_container_heap_Pop), (n_c_ref09_Slot, F_c_ref09_Slot), (n_wire_Plan_merge, F_wire_Plan_merge), (n_slices_xorshift_Next, F_slices_xorshift_Next), (n_wire_every, F_wire_every), (n_net_Net_Step, F_net_Net_Step), (n_net_Net_gate, F_net_Net_gate), (n_net_bump, F_net_bump), (n_net_Net_place, F_net_Net_place), (n_multi_Multi_Step, F_multi_Multi_Step), (n_multi_Multi_insert, F_multi_Multi_insert), (n_multi_Multi_delete, F_multi_Multi_delete), (n_pile_Pile_Put, F_pile_Pile_Put), (n_multi_better, F_multi_better), (n_container_heap_Push, F_container_heap_Push), (n_container_heap_up, F_container_heap_up), (n_kfifo_Queue_Fits, F_kfifo_Queue_Fits), (n_kfifo_Queue_Step, F_kfifo_Queue_Step), (n_kfifo_Queue_enq, F_kfifo_Queue_enq), (n_kfifo_Queue_deq, F_kfifo_Queue_deq), (n_kfifo_Queue_begin, F_kfifo_Queue_begin), (n_kfifo_Queue_slot, F_kfifo_Queue_slot), (n_kfifo_Queue_look, F_kfifo_Queue_look), (n_tally_Tally_Step, F_tally_Tally_Step), (n_tally_Tally_sum, F_tally_Tally_sum), (n_pile_items_Len, F_pile_items_Len), (n_pile_items_Less, F_pile_items_Less), (n_pile_items_Swap, F_pile_items_Swap), (n_pile_items_Pop, F_pile_items_Pop), (n_pile_items_Push, F_pile_items_Push), (n_pile_items_Len_q, F_pile_items_Len_q), (n_pile_items_Less_q, F_pile_items_Less_q), (n_pile_items_Swap_q, F_pile_items_Swap_q)]
def methL : List (TypeId × String × FuncId) := [(t_pile_Item, "Canon", n_pile_Item_Canon), (t_pile_Item, "Cmp", n_pile_Item_Cmp), (t_net_Net, "Out", n_net_Net_Out), (t_net_Net, "Step", n_net_Net_Step), (t_net_Net, "carryover/net.gate", n_net_Net_gate), (t_net_Net, "carryover/net.place", n_net_Net_place), (t_multi_Multi, "Step", n_multi_Multi_Step), (t_multi_Multi, "carryover/multi.delete", n_multi_Multi_delete), (t_multi_Multi, "carryover/multi.insert", n_multi_Multi_insert), (t_kfifo_Queue, "Fits", n_kfifo_Queue_Fits), (t_kfifo_Queue, "Slot", n_kfifo_Queue_Slot), (t_kfifo_Queue, "Step", n_kfifo_Queue_Step), (t_kfifo_Queue, "carryover/kfifo.begin", n_kfifo_Queue_begin), (t_kfifo_Queue, "carryover/kfifo.deq", n_kfifo_Queue_deq), (t_kfifo_Queue, "carryover/kfifo.enq", n_kfifo_Queue_enq), (t_kfifo_Queue, "carryover/kfifo.look", n_kfifo_Queue_look), (t_kfifo_Queue, "carryover/kfifo.slot", n_kfifo_Queue_slot), (t_tally_Tally, "Step", n_tally_Tally_Step), (t_tally_Tally, "carryover/tally.sum", n_tally_Tally_sum), (t_pile_items_u, "Len", n_pile_items_Len_q), (t_pile_items_u, "Less", n_pile_items_Less_q), (t_pile_items_u, "Pop", n_pile_items_Pop), (t_pile_items_u, "Push", n_pile_items_Push), (t_pile_items_u, "Swap", n_pile_items_Swap_q)]
def libL : FuncId → List D → Option D := fun f ds => if f = 137 then delL ds else if f = 77 then clnL ds else none
def EE : En := ⟨fun f => look f tab, some 141, some 176, fun t nm => (methL.find? fun p => p.1 == t && p.2.1 == nm).map (·.2.2), libL, srtL⟩
theorem e_c_law12_ValueOf : EE.fn n_c_law12_ValueOf = some F_c_law12_ValueOf := by kernel_rfl
theorem e_c_law12_Kind : EE.fn n_c_law12_Kind = some F_c_law12_Kind := by kernel_rfl
theorem e_c_law12_Drive : EE.fn n_c_law12_Drive = some F_c_law12_Drive := by kernel_rfl
theorem e_c_law12_ValueOf_1 : EE.fn n_c_law12_ValueOf_1 = some F_c_law12_ValueOf_1 := by kernel_rfl
theorem e_value_Of : EE.fn n_value_Of = some F_value_Of := by kernel_rfl
theorem e_c_law12_Is : EE.fn n_c_law12_Is = some F_c_law12_Is := by kernel_rfl
theorem e_c_ref12_Of : EE.fn n_c_ref12_Of = some F_c_ref12_Of := by kernel_rfl
theorem e_cell_New : EE.fn n_cell_New = some F_cell_New := by kernel_rfl
theorem e_pile_Sorted : EE.fn n_pile_Sorted = some F_pile_Sorted := by kernel_rfl
theorem e_c_law06_Run_Same : EE.fn n_c_law06_Run_Same = some F_c_law06_Run_Same := by kernel_rfl
theorem e_c_law06_Own : EE.fn n_c_law06_Own = some F_c_law06_Own := by kernel_rfl
theorem e_pile_Item_Cmp : EE.fn n_pile_Item_Cmp = some F_pile_Item_Cmp := by kernel_rfl
theorem e_cell_Memory_Clock : EE.fn n_cell_Memory_Clock = some F_cell_Memory_Clock := by kernel_rfl
theorem e_c_law04_Are : EE.fn n_c_law04_Are = some F_c_law04_Are := by kernel_rfl
theorem e_c_law12_Machine : EE.fn n_c_law12_Machine = some F_c_law12_Machine := by kernel_rfl
theorem e_c_law12_Drive_1 : EE.fn n_c_law12_Drive_1 = some F_c_law12_Drive_1 := by kernel_rfl
theorem e_c_ref12_Step : EE.fn n_c_ref12_Step = some F_c_ref12_Step := by kernel_rfl
theorem e_c_law06_Drive : EE.fn n_c_law06_Drive = some F_c_law06_Drive := by kernel_rfl
theorem e_op_Legal : EE.fn n_op_Legal = some F_op_Legal := by kernel_rfl
theorem e_value_bag : EE.fn n_value_bag = some F_value_bag := by kernel_rfl
theorem e_value_line : EE.fn n_value_line = some F_value_line := by kernel_rfl
theorem e_value_sum : EE.fn n_value_sum = some F_value_sum := by kernel_rfl
theorem e_net_Net_Out : EE.fn n_net_Net_Out = some F_net_Net_Out := by kernel_rfl
theorem e_c_ref08_All : EE.fn n_c_ref08_All = some F_c_ref08_All := by kernel_rfl
theorem e_c_ref09_All : EE.fn n_c_ref09_All = some F_c_ref09_All := by kernel_rfl
theorem e_c_ref07_Sum : EE.fn n_c_ref07_Sum = some F_c_ref07_Sum := by kernel_rfl
theorem e_c_ref11_Total : EE.fn n_c_ref11_Total = some F_c_ref11_Total := by kernel_rfl
theorem e_pile_Item_Canon : EE.fn n_pile_Item_Canon = some F_pile_Item_Canon := by kernel_rfl
theorem e_c_ref04_Cmp : EE.fn n_c_ref04_Cmp = some F_c_ref04_Cmp := by kernel_rfl
theorem e_c_law04_Own : EE.fn n_c_law04_Own = some F_c_law04_Own := by kernel_rfl
theorem e_pile_New : EE.fn n_pile_New = some F_pile_New := by kernel_rfl
theorem e_pile_Pile_All : EE.fn n_pile_Pile_All = some F_pile_Pile_All := by kernel_rfl
theorem e_cell_Memory_Len : EE.fn n_cell_Memory_Len = some F_cell_Memory_Len := by kernel_rfl
theorem e_c_ref05_Len : EE.fn n_c_ref05_Len = some F_c_ref05_Len := by kernel_rfl
theorem e_c_ref05_Read : EE.fn n_c_ref05_Read = some F_c_ref05_Read := by kernel_rfl
theorem e_cell_Memory_Read : EE.fn n_cell_Memory_Read = some F_cell_Memory_Read := by kernel_rfl
theorem e_c_law05_Is : EE.fn n_c_law05_Is = some F_c_law05_Is := by kernel_rfl
theorem e_c_ref06_Of : EE.fn n_c_ref06_Of = some F_c_ref06_Of := by kernel_rfl
theorem e_c_ref06_Into : EE.fn n_c_ref06_Into = some F_c_ref06_Into := by kernel_rfl
theorem e_op_Into : EE.fn n_op_Into = some F_op_Into := by kernel_rfl
theorem e_real_Cmp : EE.fn n_real_Cmp = some F_real_Cmp := by kernel_rfl
theorem e_c_law04_Is : EE.fn n_c_law04_Is = some F_c_law04_Is := by kernel_rfl
theorem e_multi_New : EE.fn n_multi_New = some F_multi_New := by kernel_rfl
theorem e_kfifo_New : EE.fn n_kfifo_New = some F_kfifo_New := by kernel_rfl
theorem e_tally_New : EE.fn n_tally_New = some F_tally_New := by kernel_rfl
theorem e_c_ref08_Step : EE.fn n_c_ref08_Step = some F_c_ref08_Step := by kernel_rfl
theorem e_c_ref09_Step : EE.fn n_c_ref09_Step = some F_c_ref09_Step := by kernel_rfl
theorem e_c_ref07_Step : EE.fn n_c_ref07_Step = some F_c_ref07_Step := by kernel_rfl
theorem e_c_ref11_Step : EE.fn n_c_ref11_Step = some F_c_ref11_Step := by kernel_rfl
theorem e_c_law06_Told : EE.fn n_c_law06_Told = some F_c_law06_Told := by kernel_rfl
theorem e_c_law06_IsAnswer : EE.fn n_c_law06_IsAnswer = some F_c_law06_IsAnswer := by kernel_rfl
theorem e_c_ref04_With : EE.fn n_c_ref04_With = some F_c_ref04_With := by kernel_rfl
theorem e_real_Canon : EE.fn n_real_Canon = some F_real_Canon := by kernel_rfl
theorem e_c_ref03_Cmp : EE.fn n_c_ref03_Cmp = some F_c_ref03_Cmp := by kernel_rfl
theorem e_c_ref03_Bits : EE.fn n_c_ref03_Bits = some F_c_ref03_Bits := by kernel_rfl
theorem e_c_law03_F : EE.fn n_c_law03_F = some F_c_law03_F := by kernel_rfl
theorem e_container_heap_Init : EE.fn n_container_heap_Init = some F_container_heap_Init := by kernel_rfl
theorem e_pile_Pile_Take : EE.fn n_pile_Pile_Take = some F_pile_Pile_Take := by kernel_rfl
theorem e_cell_Value_Clone : EE.fn n_cell_Value_Clone = some F_cell_Value_Clone := by kernel_rfl
theorem e_real_Key : EE.fn n_real_Key = some F_real_Key := by kernel_rfl
theorem e_c_ref08_insert : EE.fn n_c_ref08_insert = some F_c_ref08_insert := by kernel_rfl
theorem e_c_ref05_Write : EE.fn n_c_ref05_Write = some F_c_ref05_Write := by kernel_rfl
theorem e_c_ref09_enq : EE.fn n_c_ref09_enq = some F_c_ref09_enq := by kernel_rfl
theorem e_c_ref09_look : EE.fn n_c_ref09_look = some F_c_ref09_look := by kernel_rfl
theorem e_c_ref09_slot : EE.fn n_c_ref09_slot = some F_c_ref09_slot := by kernel_rfl
theorem e_c_ref09_again : EE.fn n_c_ref09_again = some F_c_ref09_again := by kernel_rfl
theorem e_c_ref11_more : EE.fn n_c_ref11_more = some F_c_ref11_more := by kernel_rfl
theorem e_c_ref04_Make : EE.fn n_c_ref04_Make = some F_c_ref04_Make := by kernel_rfl
theorem e_c_ref03_Key : EE.fn n_c_ref03_Key = some F_c_ref03_Key := by kernel_rfl
theorem e_cell_Memory_Write : EE.fn n_cell_Memory_Write = some F_cell_Memory_Write := by kernel_rfl
theorem e_kfifo_Queue_Slot : EE.fn n_kfifo_Queue_Slot = some F_kfifo_Queue_Slot := by kernel_rfl
theorem e_container_heap_down : EE.fn n_container_heap_down = some F_container_heap_down := by kernel_rfl
theorem e_container_heap_Pop : EE.fn n_container_heap_Pop = some F_container_heap_Pop := by kernel_rfl
theorem e_c_ref09_Slot : EE.fn n_c_ref09_Slot = some F_c_ref09_Slot := by kernel_rfl
theorem e_net_Net_Step : EE.fn n_net_Net_Step = some F_net_Net_Step := by kernel_rfl
theorem e_net_Net_gate : EE.fn n_net_Net_gate = some F_net_Net_gate := by kernel_rfl
theorem e_net_bump : EE.fn n_net_bump = some F_net_bump := by kernel_rfl
theorem e_net_Net_place : EE.fn n_net_Net_place = some F_net_Net_place := by kernel_rfl
theorem e_multi_Multi_Step : EE.fn n_multi_Multi_Step = some F_multi_Multi_Step := by kernel_rfl
theorem e_multi_Multi_insert : EE.fn n_multi_Multi_insert = some F_multi_Multi_insert := by kernel_rfl
theorem e_multi_Multi_delete : EE.fn n_multi_Multi_delete = some F_multi_Multi_delete := by kernel_rfl
theorem e_pile_Pile_Put : EE.fn n_pile_Pile_Put = some F_pile_Pile_Put := by kernel_rfl
theorem e_multi_better : EE.fn n_multi_better = some F_multi_better := by kernel_rfl
theorem e_container_heap_Push : EE.fn n_container_heap_Push = some F_container_heap_Push := by kernel_rfl
theorem e_container_heap_up : EE.fn n_container_heap_up = some F_container_heap_up := by kernel_rfl
theorem e_kfifo_Queue_Fits : EE.fn n_kfifo_Queue_Fits = some F_kfifo_Queue_Fits := by kernel_rfl
theorem e_kfifo_Queue_Step : EE.fn n_kfifo_Queue_Step = some F_kfifo_Queue_Step := by kernel_rfl
theorem e_kfifo_Queue_enq : EE.fn n_kfifo_Queue_enq = some F_kfifo_Queue_enq := by kernel_rfl
theorem e_kfifo_Queue_deq : EE.fn n_kfifo_Queue_deq = some F_kfifo_Queue_deq := by kernel_rfl
theorem e_kfifo_Queue_begin : EE.fn n_kfifo_Queue_begin = some F_kfifo_Queue_begin := by kernel_rfl
theorem e_kfifo_Queue_slot : EE.fn n_kfifo_Queue_slot = some F_kfifo_Queue_slot := by kernel_rfl
theorem e_kfifo_Queue_look : EE.fn n_kfifo_Queue_look = some F_kfifo_Queue_look := by kernel_rfl
theorem e_tally_Tally_Step : EE.fn n_tally_Tally_Step = some F_tally_Tally_Step := by kernel_rfl
theorem e_tally_Tally_sum : EE.fn n_tally_Tally_sum = some F_tally_Tally_sum := by kernel_rfl
theorem e_pile_items_Pop : EE.fn n_pile_items_Pop = some F_pile_items_Pop := by kernel_rfl
theorem e_pile_items_Push : EE.fn n_pile_items_Push = some F_pile_items_Push := by kernel_rfl
theorem e_pile_items_Len_q : EE.fn n_pile_items_Len_q = some F_pile_items_Len_q := by kernel_rfl
theorem e_pile_items_Less_q : EE.fn n_pile_items_Less_q = some F_pile_items_Less_q := by kernel_rfl
theorem e_pile_items_Swap_q : EE.fn n_pile_items_Swap_q = some F_pile_items_Swap_q := by kernel_rfl
end Go.AM
