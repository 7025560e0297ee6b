/-
  The numbers of the element types.
-/
import Derived.Test.YtgcfbommjdcgkaaAbs23
namespace Go.Abs.T
def ty_2_api_State : TypeId := 55
def ty_4_uint32 : TypeId := 64
def ty_8_bool : TypeId := 103
def ty_api_Ins : TypeId := 23
def ty_api_State : TypeId := 37
def ty_bautaref05_Mem : TypeId := 53
def ty_bool : TypeId := 4
def ty_int : TypeId := 3
def ty_mem_Mem : TypeId := 91
def ty_slices_xorshift : TypeId := 131
def ty_string : TypeId := 9
def ty_thumb_part : TypeId := 75
def ty_thumb_shape : TypeId := 78
def ty_uint16 : TypeId := 24
def ty_uint32 : TypeId := 34
end Go.Abs.T
